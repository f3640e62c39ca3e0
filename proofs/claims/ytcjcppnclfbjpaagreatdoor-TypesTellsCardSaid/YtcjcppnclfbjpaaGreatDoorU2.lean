/- A part of the proof of the claim (the pure semantics PS and the contracts of the functions over it). -/
import Derived.Test.YtcjcppnclfbjpaaGreatDoorU0
import Derived.Test.YtcjcppnclfbjpaaGreatDoorU1
import Derived.ChangeSlices
import Derived.ChangeArms
import Derived.Carry
set_option linter.all false
section
namespace Go.PS
open Go.RowKit
section
variable {P:Program} {C:Ctx} {W0:World} {o:Own} {sig:List Nat} {st:St} {a:Act} {w:World} {R:Type} {tm:Array Value}
def seqs:List Code → Code → Code
  | [],c => c
  | a :: l,c => .seq a (seqs l c)
noncomputable def seqsK (C:Ctx) (L:Lps):List Code → St → (Ex → St → Option R) → Option R
  | [],st,k => k .normal st
  | c :: l,st,k => pcodeK C L c st fun e st' => match e with
    | .normal => seqsK C L l st' k
    | e => k e st'
def dstsL:List Oper → List Nat
  | [] => []
  | o :: l => match o.dst with
    | some t => t :: dstsL l
    | none => dstsL l
def keepPtr (ts:List Nat):Nat → List PV → List PV
  | _,[] => []
  | i,v :: l => (match v with | .ptr id off => bif memN i ts then .undef else .ptr id off | _ => .undef) :: keepPtr ts (i + 1) l
theorem keepPtr_length (ts:List Nat):∀ (l:List PV) (i:Nat),(keepPtr ts i l).length = l.length
  | [],_ => rfl
  | _ :: l,i => by simp [keepPtr,keepPtr_length ts l (i + 1)]
theorem keepPtr_get (ts:List Nat):∀ (l:List PV) (i j:Nat),gt .undef (keepPtr ts i l) j = .undef ∨ (memN (i + j) ts = false ∧ ∃ id off,gt .undef l j = .ptr id off ∧ gt .undef (keepPtr ts i l) j = .ptr id off)
  | [],_,_ => .inl rfl
  | v :: l,i,0 => by
    show (match v with | .ptr id off => bif memN i ts then PV.undef else .ptr id off | _ => .undef) = .undef ∨ (memN (i + 0) ts = false ∧ ∃ id off,v = .ptr id off ∧ (match v with | .ptr id off => bif memN i ts then PV.undef else .ptr id off | _ => .undef) = .ptr id off)
    cases v with
    | ptr id off =>
      cases hb:memN i ts with
      | true => exact .inl rfl
      | false => exact .inr ⟨by simp [hb],id,off,rfl,rfl⟩
    | _ => exact .inl rfl
  | v :: l,i,j + 1 => by
    have:=keepPtr_get ts l (i + 1) j
    rw [show i + 1 + j = i + (j + 1) by omega] at this
    exact this
noncomputable def endK (C:Ctx) (m:Nat) (rs:List ResultVar) (Sd:SD) (md:Option DV) (caps:List PV) (st:St):Option (Out × List PObj) :=
  match Sd md caps st.heap with
  | some (b,H') => match md with
    | none => retK C m rs ⟨st.slots,H'⟩
    | some v => bif b then retK C m rs ⟨st.slots,H'⟩ else panK m v H'
  | none => none
noncomputable def runDE (C:Ctx) (L:Lps) (n:Nat) (rs:List ResultVar) (pre:List Code) (mk:Oper) (t:Nat) (fd:FuncId) (B:Code) (Sd:SD) (args:List PV) (H:List PObj):Option (Out × List PObj) :=
  match argsE args with
  | some vs => seqsK C L pre ⟨vs ++ rep (n - args.length) .undef,H⟩ fun e st => match e with
    | .ret => retK C H.length rs st
    | .pan v => panK H.length v st.heap
    | .exit _ => none
    | .normal => popK C noSy mk st (fun _ _ => none) fun st1 => match gt .undef st1.slots t with
      | .func f caps => bif Nat.beq f fd && notSkp caps then pcodeK C L B st1 (fun e st2 => match e with
          | .normal | .ret => endK C H.length rs Sd none caps ⟨keepPtr [] 0 st2.slots,st2.heap⟩
          | .pan v => endK C H.length rs Sd (some v) caps ⟨keepPtr (dstsL (opsOf B)) 0 st1.slots,st2.heap⟩
          | .exit _ => none) else none
      | _ => none
  | none => none
theorem mem_dstsL {l:List Oper} {op:Oper} (h:op ∈ l) {t:Nat} (ht:op.dst = some t):t ∈ dstsL l:=by
  induction l with
  | nil => simp at h
  | cons q l ih =>
    rcases List.mem_cons.1 h with rfl | h
    · simp only [dstsL,ht]; exact List.mem_cons_self ..
    · simp only [dstsL]
      split
      · exact List.mem_cons_of_mem _ (ih h)
      · exact ih h
theorem Rel.ptrs {o1:Own} {sig1:List Nat} {w1:World} {tm1:Array Value} {h1:List PObj} (ts:List Nat) (hr:Rel W0 o sig st tm w) (hg:Gl W0 o1 w1) (hh:RelH o1 sig1 h1 w1) (hse:SigExt sig sig1)
    (hsz:tm.size = tm1.size) (htm:∀ j,memN j ts = false → tm1.getD j undef = tm.getD j undef):Rel W0 (rel inw o1) sig1 ⟨keepPtr ts 0 st.slots,h1⟩ tm1 w1 where
  gl:=hg.relabel inw
  len:=by show (keepPtr ts 0 st.slots).length ≤ _; rw [keepPtr_length,← hsz]; exact hr.len
  slot j:=by
    show PEnc _ _ _ (gt .undef (keepPtr ts 0 st.slots) j) _
    rcases keepPtr_get ts st.slots 0 j with h | ⟨hm,id,off,h1,h2⟩
    · rw [h]; exact .undef
    · rw [h2,htm j (by simpa using hm)]
      have:=hr.slot j
      rw [h1] at this
      obtain ⟨b,e1,e2⟩:=this.ptr_inv
      rw [e2]
      exact .ptr (hse _ _ e1)
  cap j k:=by
    refine Cap.of_noOwn ?_
    show (cmpV (gt .undef (keepPtr ts 0 st.slots) j) k).noOwn
    rcases keepPtr_get ts st.slots 0 j with h | ⟨_,id,off,_,h2⟩
    · rw [h]; unfold cmpV; dsimp only; split <;> trivial
    · rw [h2]; unfold cmpV; dsimp only; split <;> trivial
  hp:=hh.relabel inw (fun _ => rfl) fun _ _ _ _ _ _ => rfl
theorem Rel.ptrs2 {ts:List Nat} {sl:List PV} {h1 h2:List PObj} {o2:Own} {sig2:List Nat} {w2:World} (hr:Rel W0 o sig ⟨keepPtr ts 0 sl,h1⟩ tm w) (hg:Gl W0 o2 w2) (hh:RelH o2 sig2 h2 w2) (hse:SigExt sig sig2) :
    Rel W0 o2 sig2 ⟨keepPtr ts 0 sl,h2⟩ tm w2 where
  gl:=hg
  len:=hr.len
  slot j:=by
    show PEnc _ _ _ (gt .undef (keepPtr ts 0 sl) j) _
    rcases keepPtr_get ts sl 0 j with h | ⟨hm,id,off,h1,h2⟩
    · rw [h]; exact .undef
    · have:=hr.slot j
      have this:PEnc o w sig (gt .undef (keepPtr ts 0 sl) j) (tm.getD j undef):=this
      rw [h2] at this ⊢
      obtain ⟨b,e1,e2⟩:=this.ptr_inv
      rw [e2]
      exact .ptr (hse _ _ e1)
  cap j k:=by
    refine Cap.of_noOwn ?_
    show (cmpV (gt .undef (keepPtr ts 0 sl) j) k).noOwn
    rcases keepPtr_get ts sl 0 j with h | ⟨_,id,off,_,h2⟩
    · rw [h]; unfold cmpV; dsimp only; split <;> trivial
    · rw [h2]; unfold cmpV; dsimp only; split <;> trivial
  hp:=hh
theorem endK_sound (hC:TyOk P C) {fn:Func} (hnd:nodupN (tmpsOf fn.results.toList) = true) {fd:FuncId} {Sd:SD} (hS:SoundD P W0 fd Sd) {H H' : List PObj} {out:Out} {o1:Own} {sig1:List Nat} {w1:World} {a1:Act} {md:Option DV} {u:FrameMode} {caps:List PV} {xs:List Value}
    {ts:List Nat} {sl:List PV} {h1:List PObj}
    (hg:Gl W0 o w) (hl:sig.length = H.length) (hr:Rel W0 o1 sig1 ⟨keepPtr ts 0 sl,h1⟩ a1.tmps w1) (hst:Step (rel inw o) w o1 w1) (hse:SigExt sig sig1) (hcaps:PEncL o1 w1 sig1 caps xs) (hu:ModeIs o1 w1 md u)
    (h:endK C H.length fn.results.toList Sd md caps ⟨keepPtr ts 0 sl,h1⟩ = some (out,H')) :
    Leaves P fn a1.tmps (Post W0 o sig w out H') [{ target:=.fn (.func fd) xs.toArray,args:=#[] }] u w1:=by
  unfold endK at h
  split at h
  rotate_left
  · simp at h
  rename_i b H2 hb
  refine leaves_cons (f:=fd) (args:=xs.toArray) ?_ ?_ ((hS.calls _ _ _ _ _ hb o1 sig1 w1 xs u hr.gl hr.hp hcaps hu).mono ?_)
  · cases md with
    | none => have hu:u = .returning:=hu; rw [hu]; simp
    | some v => obtain ⟨x,_,hu⟩:=hu; rw [hu]; simp
  · have:(#[]:Array Value) ++ xs.toArray = xs.toArray:=by simp
    show (callFunc fd (#[] ++ xs.toArray)).run P w1 = _
    rw [hS.enters,this]
  · rintro e u' w2 ⟨⟨y,rfl⟩,rfl,o2,sig2,g1,g2,g3,g4⟩
    have hr2:=hr.ptrs2 g1 g2 g4
    have hret:retK C H.length fn.results.toList ⟨keepPtr ts 0 sl,H2⟩ = some (out,H') → Leaves P fn a1.tmps (Post W0 o sig w out H') [] .returning w2:=by
      intro hk
      obtain ⟨z,e1,e2⟩:=ret_post hC hnd hg hl hr2 (hst.trans g3) (hse.trans g4) hk
      exact ⟨z,e1,e2⟩
    cases md with
    | none =>
      have hu:u = .returning:=hu
      subst hu
      exact hret h
    | some v =>
      obtain ⟨x,hx,rfl⟩:=hu
      cases b with
      | true => exact hret h
      | false =>
        simp only [cond_false] at h
        exact pan_post hg hl g1 g2 (hx.mono g3.stab) (hst.trans g3) (hse.trans g4) h
theorem seqs_loops:∀ (pre:List Code) (c:Code),(∀ x ∈ pre,∀ y ∈ loopsOf x,y ∈ loopsOf (seqs pre c)) ∧ ∀ y ∈ loopsOf c,y ∈ loopsOf (seqs pre c)
  | [],c => ⟨fun x hx => by simp at hx,fun y hy => hy⟩
  | a :: l,c => by
    obtain ⟨h1,h2⟩:=seqs_loops l c
    refine ⟨fun x hx y hy => ?_,fun y hy => ?_⟩
    · simp only [seqs,loopsOf,List.mem_append]
      rcases List.mem_cons.1 hx with rfl | hx
      · exact .inl hy
      · exact .inr (h1 x hx y hy)
    · simp only [seqs,loopsOf,List.mem_append]
      exact .inr (h2 y hy)
theorem seqs_wp (hC:TyOk P C) (hE:EnvOk P W0 C) (hm:P.follows .mixedOrders = true) {L:Lps} {r:R}:∀ (pre:List Code) {c:Code} {st:St} {a:Act} {o:Own} {sig:List Nat} {w:World} {K:Ex → St → Option R} {Q:Exit → Act → World → Prop},
    (∀ x ∈ pre,LpsOk C L (loopsOf x)) → Rel W0 o sig st a.tmps w → a.defers = [] →
    (∀ e st' o' sig' a' w' x,K e st' = some r → Exits W0 e o' sig' st' a' w' x → Step o w o' w' → SigExt sig sig' → a'.defers = [] → x ≠ .normal → Q x a' w') →
    (∀ st' o' sig' a' w',K .normal st' = some r → Rel W0 o' sig' st' a'.tmps w' → Step o w o' w' → SigExt sig sig' → a'.defers = [] → c.wp P Q a' w') →
    seqsK C L pre st K = some r → (seqs pre c).wp P Q a w:=by
  intro pre
  induction pre with
  | nil => intro c st a o sig w K Q hL hr hd hQ hn h; exact hn _ _ _ _ _ h hr (.refl _ _) (.refl _) hd
  | cons x pre ih =>
    intro c st a o sig w K Q hL hr hd hQ hn h
    simp only [seqsK] at h
    refine wp_seq (pcodeK_sound (ds:=[]) hC hE hm x (hL x (List.mem_cons_self ..)) hr hd ?_ h)
    intro e st' o' sig' a' w' ex h1 h2 h3 h4 h5
    cases ex with
    | normal =>
      obtain ⟨rfl,h2⟩:=h2
      exact ih (fun y hy => hL y (List.mem_cons_of_mem _ hy)) h2 h5 (fun e2 st2 o2 sig2 a2 w2 x2 k1 k2 k3 k4 k5 k6 => hQ e2 st2 o2 sig2 a2 w2 x2 k1 k2 (h3.trans k3) (h4.trans k4) k5 k6)
        (fun st2 o2 sig2 a2 w2 k1 k2 k3 k4 k5 => hn st2 o2 sig2 a2 w2 k1 k2 (h3.trans k3) (h4.trans k4) k5) h1
    | exit id => obtain ⟨rfl,h2⟩:=h2; exact hQ _ _ _ _ _ _ (.exit id) h1 ⟨rfl,h2⟩ h3 h4 h5 (by simp)
    | ret => obtain ⟨rfl,h2⟩:=h2; exact hQ _ _ _ _ _ _ .ret h1 ⟨rfl,h2⟩ h3 h4 h5 (by simp)
    | panic ch =>
      obtain ⟨v,x,rfl,h2⟩:=h2
      exact hQ _ _ _ _ _ _ (.panic ch) h1 ⟨v,x,rfl,h2⟩ h3 h4 h5 (by simp)
    | goto l => exact h2.elim
    | outgrown => exact h2.elim
theorem sound_of_defers (hC:TyOk P C) (hE:EnvOk P W0 C) (hm:P.follows .mixedOrders = true) {f:FuncId} {fn:Func} (hf:P.funcs[f]? = some fn) {pre:List Code} {id t:Nat} {fd:FuncId} {mk dp:Oper} {B:Code}
    (hb : fn.body = some (seqs pre (.seq (.region id #[mk, dp] false) B))) (hn : (fn.name == "runtime.NumGoroutine") = false)
    (hnd:nodupN (tmpsOf fn.results.toList) = true) (m1:mk.guard = none) (d1:dp.op = .defer { callee:=.value (.tmp t),args:=#[],argTypes:=#[] }) (d2:dp.dst = none) (d3:dp.guard = none)
    {L:Lps} (hL:LpsOk C L (loopsOf (seqs pre (.seq (.region id #[mk,dp] false) B)))) {Sd:SD} (hS:SoundD P W0 fd Sd) {S:List PV → List PObj → Option (Out × List PObj)}
    (h:∀ args H r,S args H = some r → runDE C L fn.ntmps fn.results.toList pre mk t fd B Sd args H = some r):Sound P W0 f S:=by
  refine ⟨enters_of hf hb hn,?_⟩
  intro args H out H' hs o sig w xs hg hh hx
  have h:=h args H _ hs
  unfold runDE at h
  split at h
  rotate_left
  · simp at h
  rename_i us hus
  obtain ⟨hLp,hLB⟩:=seqs_loops pre (.seq (.region id #[mk,dp] false) B)
  refine calls_of_wp_defers hf hb ?_
  refine seqs_wp (a:={ tmps:=(xs.toArray ++ Array.replicate (fn.ntmps - xs.toArray.size) undef),defers:=[] }) hC hE hm pre (fun x hx => hL.sub (hLp x hx)) (enter_rel hg hh hx hus) rfl ?_ ?_ h
  · intro e st' o' sig' a' w' ex k1 k2 k3 k4 k5 k6
    cases ex with
    | normal => exact absurd rfl k6
    | ret =>
      obtain ⟨rfl,k2⟩:=k2
      obtain ⟨y,e1,e2⟩:=ret_post hC hnd hg hh.sigl k2 k3 k4 k1
      show Leaves P fn a'.tmps _ a'.defers .returning w'
      rw [k5]
      exact ⟨y,e1,e2⟩
    | exit id => obtain ⟨rfl,k2⟩:=k2; simp at k1
    | panic ch =>
      obtain ⟨v,x,rfl,e2,e3,e4,rfl⟩:=k2
      show Leaves P fn a'.tmps _ a'.defers (.panicking _) w'
      rw [k5]
      exact pan_post hg hh.sigl e4 e3 e2 k3 k4 k1
    | goto l => exact k2.elim
    | outgrown => exact k2.elim
  · intro st1 o1 sig1 a1 w1 k1 hr1 hs1 he1 hd1
    dsimp only at k1
    refine wp_seq (wp_region_list ?_)
    show wpList P #[mk,dp] _ [mk,dp] a1 w1
    unfold wpList
    have hw1:Region.wanted mk (yielded #[mk,dp] a1.tmps) = true:=by unfold Region.wanted; rw [m1]
    rw [hw1,if_pos rfl]
    refine .inl (popK_wp hC hE hr1 .nil ⟨?_,fun v x hp' o' sig' w' k => by simp at k⟩ k1)
    intro x st2 o2 sig2 w2 k2 hr2 hs2 he2
    unfold wpList
    have hw2:Region.wanted dp (yielded #[mk,dp] (a1.put mk.dst x).tmps) = true:=by unfold Region.wanted; rw [d3]
    rw [hw2,if_pos rfl]
    refine .inl ?_
    split at k2
    rotate_left
    · simp at k2
    rename_i f' caps hcl
    rw [bif_some] at k2
    obtain ⟨hfd,k2⟩:=k2
    simp only [Bool.and_eq_true] at hfd
    obtain ⟨hfd,hnsk⟩:=hfd
    have hfd:=Nat.eq_of_beq_eq_true hfd
    subst hfd
    have hcv:=hr2.slot t
    rw [hcl] at hcv
    obtain ⟨ys,hcx,hcaps⟩:=hcv.func_inv0 hnsk
    generalize ha2:a1.put mk.dst x = a2 at hr2 hcx
    have hd2:a2.defers = []:=by rw [← ha2,put_defers]; exact hd1
    have hrun:(execOp a2.eval dp).run P w2 = .ok (.defer { target:=.fn (.func f') ys.toArray,args:=#[] }) w2:=by
      obtain ⟨pd,po,pt,pp,pa,pg⟩:=dp
      dsimp only at d1
      subst d1
      have:a2.eval (.tmp t) = .func (.func f') #[] ys.toArray:=hcx
      simp [execOp,resolve,this,Deferred.ofValue]
    unfold Oper.wp
    rw [hrun,Oper.upon_defer,d2]
    unfold wpList
    show B.wp P _ { a2 with defers:={ target:=.fn (.func f') ys.toArray,args:=#[] } :: a2.defers } w2
    rw [hd2]
    let d:Deferred:={ target:=.fn (.func f') ys.toArray,args:=#[] }
    refine pcodeK_inv (I:=fun b => b.defers = [d] ∧ a2.tmps.size = b.tmps.size ∧ ∀ j,memN j (dstsL (opsOf B)) = false → b.tmps.getD j undef = a2.tmps.getD j undef) hC hE hm B (hL.sub fun y hy => hLB y (by simpa [loopsOf] using hy)) ?_ hr2 ⟨rfl,rfl,fun _ _ => rfl⟩ ?_ k2
    · rintro op hop b y ⟨i1,i2,i3⟩
      refine ⟨by rw [put_defers]; exact i1,?_,fun j hj => ?_⟩
      · cases op.dst with
        | none => exact i2
        | some q => show _ = (b.tmps.setIfInBounds q y).size; simpa using i2
      · cases hq:op.dst with
        | none => exact i3 j hj
        | some q =>
          have hm:=mem_dstsL hop hq
          have hne:q ≠ j:=by
            rintro rfl
            rw [memN_iff.2 hm] at hj; simp at hj
          show (b.tmps.setIfInBounds q y).getD j undef = _
          rw [← i3 j hj]
          simp only [Array.getD_eq_getD_getElem?,Array.getElem?_setIfInBounds,if_neg hne]
    · intro e st3 o3 sig3 a3 w3 ex q1 q2 q3 q4 q5
      obtain ⟨q5,q6,q7⟩:=q5
      have hst3:Step (rel inw o) w o3 w3:=(hs1.trans hs2).trans q3
      have hse3:SigExt sig sig3:=(he1.trans he2).trans q4
      have hcaps3:PEncL (rel inw o3) w3 sig3 caps ys:=(hcaps.mono q3.stab q4).mono (fun _ _ _ h => rel_stab h) fun _ _ h => h
      have ret:Rel W0 o3 sig3 st3 a3.tmps w3 → endK C H.length fn.results.toList Sd none caps ⟨keepPtr [] 0 st3.slots,st3.heap⟩ = some (out,H') → Leaves P fn a3.tmps (Post W0 o sig w out H') a3.defers .returning w3:=by
        intro q2 q1
        rw [q5]
        exact endK_sound hC hnd hS hg hh.sigl (q2.ptrs [] q2.gl q2.hp (.refl _) rfl fun _ _ => rfl) (hst3.relR rfl) hse3 hcaps3 (md:=none) (show ModeIs _ _ none .returning from rfl) q1
      cases ex with
      | normal => obtain ⟨rfl,q2⟩:=q2; exact ret q2 q1
      | ret => obtain ⟨rfl,q2⟩:=q2; exact ret q2 q1
      | exit id => obtain ⟨rfl,q2⟩:=q2; simp at q1
      | panic ch =>
        obtain ⟨v,x,rfl,e2,e3,e4,rfl⟩:=q2
        show Leaves P fn a3.tmps _ a3.defers (.panicking _) w3
        rw [q5]
        exact endK_sound hC hnd hS hg hh.sigl (hr2.ptrs _ e4 e3 q4 q6 q7) (hst3.relR rfl) hse3 hcaps3 (md:=some v) (show ModeIs _ _ (some v) _ from ⟨x,e2.mono fun _ _ _ h => rel_stab h,rfl⟩) q1
      | goto l => exact q2.elim
      | outgrown => exact q2.elim
end
end Go.PS
end

section
namespace Go.PS
open Go.RowKit
section
variable {P:Program} {C:Ctx} {W0:World}
def hdS:Code → Code
  | .seq a _ => a
  | c => c
def tlS:Code → Code
  | .seq _ b => b
  | _ => .skip
def dropC:Nat → Code → Code
  | 0,c => c
  | n + 1,c => dropC n (tlS c)
def headsC:Nat → Code → List Code
  | 0,_ => []
  | n + 1,c => hdS c :: headsC n (tlS c)
def opAt (c:Code) (i:Nat):Oper :=
  match c with
  | .region _ ops _ => gt default ops.toList i
  | _ => default
def idOf:Code → Nat
  | .region id _ _ => id
  | _ => 0
structure DfOk (c:Code) (k t:Nat):Prop where
  ceq:c = seqs (headsC k c) (.seq (.region (idOf (hdS (dropC k c))) #[opAt (hdS (dropC k c)) 0,opAt (hdS (dropC k c)) 1] false) (tlS (dropC k c)))
  m1:(opAt (hdS (dropC k c)) 0).guard = none
  d1:(opAt (hdS (dropC k c)) 1).op = .defer { callee:=.value (.tmp t),args:=#[],argTypes:=#[] }
  d2:(opAt (hdS (dropC k c)) 1).dst = none
  d3:(opAt (hdS (dropC k c)) 1).guard = none
theorem effD_of (hC:TyOk P C) (hE:EnvOk P W0 C) (hm:P.follows .mixedOrders = true) {f:FuncId} {n:Nat} {rs:List ResultVar} {c:Code} (hf:FnOk P f n rs c) {L:Lps} (hL:LpsOk C L (loopsOf c)) {k t:Nat} (hd:DfOk c k t) {fd:FuncId} {Sd:SD} (hS:SoundD P W0 fd Sd)
    {S:List PV → List PObj → Tr (Out × List PObj)} (h:∀ args H r,(S args H).val = some r → runDE C L n rs (headsC k c) (opAt (hdS (dropC k c)) 0) t fd (tlS (dropC k c)) Sd args H = some r):EKOk P W0 f (.eff (PS.frameT S)):=by
  obtain ⟨fn,h1,h2,h3,rfl,rfl,h6⟩:=hf.ex
  obtain ⟨e,m1,d1,d2,d3⟩:=hd
  exact Sound.frameT (sound_of_defers hC hE hm h1 (h2.trans (congrArg some e)) h3 h6 m1 d1 d2 d3 (by rw [← e]; exact hL) hS h)
structure RcOk (P:Program) (f:FuncId) (n t d:Nat) (c:Code):Prop where
  ex : ∃ fn : Func, P.funcs[f]? = some fn ∧ fn.body = some c ∧ (fn.name == "runtime.NumGoroutine") = false ∧ fn.ntmps = n ∧ fn.results = #[]
  ceq:c = .seq (.region (idOf (hdS c)) #[opAt (hdS c) 0,opAt (hdS c) 1] false) (tlS c)
  r1:(opAt (hdS c) 0).op = .call { callee:=.builtin .recover,args:=#[],argTypes:=#[] }
  r2:(opAt (hdS c) 0).dst = some t
  r3:(opAt (hdS c) 0).guard = none
  a1:(opAt (hdS c) 1).op = .assign (.tmp t)
  a2:(opAt (hdS c) 1).dst = some d
  a3:(opAt (hdS c) 1).guard = none
  lt:t < n
theorem recov_of (hC:TyOk P C) (hE:EnvOk P W0 C) (hm:P.follows .mixedOrders = true) {f:FuncId} {n t d:Nat} {c:Code} (hf:RcOk P f n t d c) {L:Lps} (hL:LpsOk C L (loopsOf (tlS c)))
    {S:SD} (h:∀ m args H r,S m args H = some r → runR C L n t d (tlS c) m args H = some r):SoundD P W0 f S:=by
  obtain ⟨⟨fn,h1,h2,h3,rfl,h5⟩,e,r1,r2,r3,a1,a2,a3,lt⟩:=hf
  exact soundD_of hC hE hm h1 (h2.trans (congrArg some e)) h3 h5 r1 r2 r3 a1 a2 a3 lt hL h
noncomputable def frameD (S:SD):SD:=fun md args H =>
  match PS.frame (fun a h => (S md a h).map fun p => (.ret (.d (.bool p.1)),p.2)) args H with
  | some (.ret (.d (.bool b)),H') => some (b,H')
  | _ => none
theorem SoundD.frame {f:FuncId} {S:SD} (hS:SoundD P W0 f S):SoundD P W0 f (frameD S):=by
  refine ⟨hS.enters,?_⟩
  intro m args H b H' hs o sig w xs u hg hh hx hu
  unfold frameD at hs
  split at hs
  rotate_left
  · simp at hs
  rename_i b' H'' hf
  simp only [Option.some.injEq,Prod.mk.injEq] at hs
  obtain ⟨rfl,rfl⟩:=hs
  obtain ⟨as,H1,out2,H2,o1,sig1,h1,h2,h3,h4,h6,h5⟩:=frame_core (visit 200 H [] args) hf hg hh hx
  rw [Option.map_eq_some_iff] at h1
  obtain ⟨⟨b2,H3⟩,e1,e2⟩:=h1
  simp only [Prod.mk.injEq] at e2
  obtain ⟨rfl,rfl⟩:=e2
  have hu1:ModeIs o1 w m u:=by
    cases m with
    | none => exact hu
    | some v => obtain ⟨x,hx,hu⟩:=hu; exact ⟨x,hx.mono h6,hu⟩
  refine (hS.calls m as H1 b2 H3 e1 o1 sig1 w xs u h2 h3 h4 hu1).mono ?_
  rintro e u' w' ⟨hy,rfl,o',sig',g1,g2,g3,g4⟩
  have hp:=h5 (.returned (.bool b2)) w' ⟨o',sig',g1,g2,g3,g4,.d (.bool b2),fun k => by unfold cmpV; dsimp only; split <;> exact Cap.of_noOwn trivial⟩
  obtain ⟨⟨o2,sig2,k1,k2,k3,k4,k5,_⟩,_⟩:=hp
  have hb:b2 = b':=by
    cases k5 with | d k5 => cases k5; rfl
  subst hb
  exact ⟨hy,rfl,o2,sig2,k1,k2,k3,k4⟩
end
end Go.PS
end

section
namespace Go.PS
variable {P:Program} {W0:World}
def lowP:PV → PV
  | .own sz vs => .d (.slc sz vs)
  | .tup (.own sz vs :: r) => .tup (.d (.slc sz vs) :: r)
  | v => v
theorem low_enc {o:Own} {w:World} {sig:List Nat} {v:PV} {x:Value} (h:PEnc o w sig v x):PEnc o w sig (lowP v) x:=by
  unfold lowP
  split
  · exact h.plain
  · cases h with
    | tup h =>
      cases h with
      | cons h t => exact .tup (.cons h.plain t)
  · exact h
theorem low_cap {o:Own} {w:World} {v:PV} {x:Value} (h:∀ k,Cap o w (.res k) (cmpV v k) (cmpX v x k)) (k:Nat):Cap o w (.res k) (cmpV (lowP v) k) (cmpX (lowP v) x k):=by
  unfold lowP
  split
  · refine Cap.of_noOwn ?_
    unfold cmpV; dsimp only; split <;> trivial
  · rename_i sz vs r
    cases k with
    | zero => exact Cap.of_noOwn trivial
    | succ k => have:=h (k + 1); cases x <;> exact this
  · exact h k
theorem pure_low {f:Nat} {S S' : List PV → Tr PV} (h:EKOk P W0 f (.pure S)) (hs:∀ args v',(S' args).val = some v' → ∃ v,(S args).val = some v ∧ v' = lowP v):EKOk P W0 f (.pure S'):=by
  refine ⟨h.enters,fun args v' hv' o sig w xs g1 g2 g3 => ?_⟩
  obtain ⟨v,hv,rfl⟩:=hs args v' hv'
  refine (h.calls args v hv o sig w xs g1 g2 g3).mono ?_
  rintro e w' ⟨x,o',he,hg,hp,hc⟩
  exact ⟨x,o',he,hg,low_enc hp,low_cap hc⟩
end Go.PS
end

section
namespace Go.PS
namespace Lt
open Go.ChangeShapes Go.WideShapes
def laidF (P:Program):Nat → List Field → Option Nat
  | n,[] => some n
  | n,f :: l => if f.offset = n then laidF P (n + P.cellsOf f.type) l else none
def plainT (P:Program) (ts:List TypeId) (t:TypeId):Bool :=
  match P.underlying t with
  | some .bool | some (.int _) | some .string => true
  | some (.slice e) => ts.contains e && decide (0 < P.cellsOf e)
  | some (.struct fs) => (laidF P 0 fs.toList == some (P.cellsOf t)) && fs.toList.all fun f => ts.contains f.type
  | _ => false
def isAgg:DV → Bool
  | .agg _ => true
  | _ => false
def isStruct (P:Program) (t:TypeId):Bool:=match P.underlying t with | some (.struct _) => true | _ => false
def tyV (P:Program):Nat → TypeId → List DV → Prop
  | 0,_,_ => False
  | n + 1,t,ds => match P.underlying t with
    | some .bool => ∃ b,ds = [.bool b]
    | some (.int k) => ∃ m,ds = [.int k m] ∧ (Lit.int k m).wf = true
    | some .string => ∃ s,ds = [.str s] ∧ s.length ≤ reachBytes
    | some (.slice e) => ∃ vs,ds = [.slc (P.cellsOf e) vs] ∧ vs.length ≤ maxLen ∧ ∀ v ∈ vs,isAgg v = isStruct P e ∧ tyV P n e v.cells
    | some (.struct fs) => ds.length = P.cellsOf t ∧ ∀ f ∈ fs.toList,tyV P n f.type ((ds.drop f.offset).take (P.cellsOf f.type))
    | _ => False
def lightW {H:Type} (P:Program) (t:TypeId) (x:DataW H):Prop:=∀ n ∈ x.weights P t,n ≤ reachBytes
theorem light_all {H:Type} {P:Program} {e:TypeId}:∀ {l:List (DataW H)},(∀ n ∈ DataW.weightsAll P e l,n ≤ reachBytes) → ∀ d ∈ l,lightW P e d
  | [],_,d,h => by cases h
  | x :: l,h,d,hd => by
    rw [DataW.weightsAll] at h
    rcases List.mem_cons.1 hd with rfl | hd
    · exact fun n hn => h n (List.mem_append_left _ hn)
    · exact light_all (fun n hn => h n (List.mem_append_right _ hn)) d hd
theorem light_each {H:Type} {P:Program}:∀ {ts:List TypeId} {l:List (DataW H)},(∀ n ∈ DataW.weightsEach P ts l,n ≤ reachBytes) → ∀ (i:Nat) t d,ts[i]? = some t → l[i]? = some d → lightW P t d
  | [],l,_,i,t,d,ht,hd => by simp at ht
  | _ :: _,[],_,i,t,d,ht,hd => by simp at hd
  | u :: ts,x :: l,h,i,t,d,ht,hd => by
    rw [DataW.weightsEach] at h
    cases i with
    | zero =>
      simp only [List.getElem?_cons_zero,Option.some.injEq] at ht hd
      subst ht; subst hd
      exact fun n hn => h n (List.mem_append_left _ hn)
    | succ i =>
      simp only [List.getElem?_cons_succ] at ht hd
      exact light_each (fun n hn => h n (List.mem_append_right _ hn)) i t d ht hd
section
variable {H:Type} {enc:TypeId × Value → H} {P:Program} {w:World} {base:Nat} {held:Bool}
def bareO:Own:=fun _ => none
theorem sc_cells {o:Own} {w:World} {d:DV} {c:Value} (hs:d.scalar = true) (h:Enc o w d c):c.cells = #[c]:=by
  cases h <;> first | rfl | (simp [DV.scalar] at hs)
theorem append_encL {o:Own} {w:World} {vs xs us ys} (h:EncL o w vs xs) (h2:EncL o w us ys):EncL o w (vs ++ us) (xs ++ ys):=by
  match h with
  | .nil => exact h2
  | .cons hh t => exact .cons hh (append_encL t h2)
theorem open_fields (W:World) (n:Nat) {ts:List TypeId}
    (ih:∀ (t:TypeId) (cs:List Value) (x:DataW H × List MemPlace),ts.contains t = true → DataW.trod enc P W base (fun _ => true) held n t cs = some x → lightW P t x.1 → ∃ ds,EncL bareO W ds cs ∧ (∀ d ∈ ds,d.scalar = true) ∧ tyV P n t ds)
    {cs:List Value}:∀ (fs:List Field) (m k:Nat),laidF P m fs = some k → (∀ f ∈ fs,ts.contains f.type = true) → k ≤ cs.length →
    (∀ f ∈ fs,∃ x,DataW.trod enc P W base (fun _ => true) held n f.type ((cs.drop f.offset).take (P.cellsOf f.type)) = some x ∧ lightW P f.type x.1) →
    m ≤ k ∧ ∃ ds,EncL bareO W ds ((cs.drop m).take (k - m)) ∧ (∀ d ∈ ds,d.scalar = true) ∧ ∀ f ∈ fs,m ≤ f.offset ∧ tyV P n f.type ((ds.drop (f.offset - m)).take (P.cellsOf f.type))
  | [],m,k,hl,_,_,_ => by
    simp only [laidF,Option.some.injEq] at hl
    subst hl
    exact ⟨Nat.le_refl _,[],by rw [Nat.sub_self,List.take_zero]; exact .nil,(by intro d hd; cases hd),(by intro f hf; cases hf)⟩
  | f :: fs,m,k,hl,ht,hk,hx => by
    simp only [laidF] at hl
    split at hl
    · rename_i ho
      obtain ⟨hmk,ds2,he2,hs2,hf2⟩:=open_fields W n ih fs _ _ hl (fun g hg => ht g (List.mem_cons_of_mem _ hg)) hk (fun g hg => hx g (List.mem_cons_of_mem _ hg))
      obtain ⟨x,hx1,hx2⟩:=hx f List.mem_cons_self
      obtain ⟨ds1,he1,hs1,hf1⟩:=ih _ _ _ (ht f List.mem_cons_self) hx1 hx2
      have hlen1:=he1.length
      rw [List.length_take,List.length_drop,ho] at hlen1
      have hlen1' : ds1.length = P.cellsOf f.type:=by omega
      refine ⟨by omega,ds1 ++ ds2,?_,?_,?_⟩
      · have:=append_encL he1 he2
        rw [ho] at this
        have e:(cs.drop m).take (k - m) = (cs.drop m).take (P.cellsOf f.type) ++ (cs.drop (m + P.cellsOf f.type)).take (k - (m + P.cellsOf f.type)):=by
          rw [← List.drop_drop,show k - m = P.cellsOf f.type + (k - (m + P.cellsOf f.type)) by omega,List.take_add]
        rw [e]; exact this
      · intro d hd
        rcases List.mem_append.1 hd with hd | hd
        · exact hs1 d hd
        · exact hs2 d hd
      · intro g hg
        rcases List.mem_cons.1 hg with rfl | hg
        · refine ⟨by omega,?_⟩
          rw [ho,Nat.sub_self,List.drop_zero,← hlen1',List.take_left]
          exact hf1
        · obtain ⟨h1,h2⟩:=hf2 g hg
          refine ⟨by omega,?_⟩
          rw [show g.offset - m = ds1.length + (g.offset - (m + P.cellsOf f.type)) by omega,List.drop_append,List.drop_eq_nil_of_le (by omega),List.nil_append,Nat.add_sub_cancel_left]
          exact h2
    · cases hl
theorem cell_spot {w:World} {a:Addr} {v:Value} (h:w.cell? a = some v):a.spot = none:=by
  unfold World.cell? at h
  split at h
  · split at h
    · cases h
    · rename_i hs; simpa using hs
  · cases h
theorem add_add (b off k j:Nat):((⟨b,off,none⟩:Addr).add k).add j = ⟨b,off + k + j,none⟩:=by
  unfold Addr.add
  by_cases hk:k = 0
  · subst hk; by_cases hj:j = 0
    · subst hj; simp
    · simp [hj]
  · by_cases hj:j = 0
    · subst hj; simp [hk]
    · simp [hk,hj]
theorem open_elem (W:World) (n:Nat) {e:TypeId} {ds:List DV} {cs:List Value} (he:EncL bareO W ds cs) (hs:∀ d ∈ ds,d.scalar = true) (ht:tyV P n e ds) :
    ∃ (v:DV) (x:Value),Enc bareO W v x ∧ x.cells.toList = cs ∧ isAgg v = isStruct P e ∧ tyV P n e v.cells ∧ x = (if isStruct P e = true then .agg cs.toArray else cs.headD undef):=by
  cases n with
  | zero => exact ht.elim
  | succ n =>
    by_cases hst:isStruct P e = true
    · exact ⟨.agg ds,.agg cs.toArray,.agg _ _ he hs,by simp [Value.cells],by rw [hst]; rfl,ht,by rw [if_pos hst]⟩
    · have one:∃ d,ds = [d] ∧ d.scalar = true:=by
        have ht':=ht
        unfold tyV at ht'
        unfold isStruct at hst
        split at ht'
        · obtain ⟨b,rfl⟩:=ht'; exact ⟨_,rfl,rfl⟩
        · obtain ⟨b,rfl,_⟩:=ht'; exact ⟨_,rfl,rfl⟩
        · obtain ⟨b,rfl,_⟩:=ht'; exact ⟨_,rfl,rfl⟩
        · obtain ⟨b,rfl,_⟩:=ht'; exact ⟨_,rfl,rfl⟩
        · rename_i hu; rw [hu] at hst; exact absurd rfl hst
        · exact ht'.elim
      obtain ⟨d,rfl,hd⟩:=one
      cases he with
      | cons h t =>
        cases t
        refine ⟨d,_,h,by rw [sc_cells hd h],?_,?_,by rw [if_neg hst]; rfl⟩
        · have:isStruct P e = false:=by simpa using hst
          rw [this]; cases d <;> first | rfl | (simp [DV.scalar] at hd)
        · have:d.cells = [d]:=by cases d <;> first | rfl | (simp [DV.scalar] at hd)
          rw [this]; exact ht
theorem open_row (W:World) (n:Nat) {e:TypeId} {a:Addr}
    (ih:∀ (cs:List Value) (x:DataW H × List MemPlace),DataW.trod enc P W base (fun _ => true) held n e cs = some x → lightW P e x.1 → ∃ ds,EncL bareO W ds cs ∧ (∀ d ∈ ds,d.scalar = true) ∧ tyV P n e ds) :
    ∀ (m:Nat),(∀ i,i < m → ∃ y,(W.cells? base (a.add (i * P.cellsOf e)) (P.cellsOf e)).bind (DataW.trod enc P W base (fun _ => true) held n e) = some y ∧ lightW P e y.1) →
    ∃ (vs:List DV) (xs:List Value),vs.length = m ∧ EncL bareO W vs xs ∧ (∀ v ∈ vs,isAgg v = isStruct P e ∧ tyV P n e v.cells) ∧
      ∀ (i:Nat) x,xs[i]? = some x → x.cells.size = P.cellsOf e ∧ ∀ (j:Nat) y,x.cells[j]? = some y → W.cell? ((a.add (i * P.cellsOf e)).add j) = some y
  | 0,_ => ⟨[],[],rfl,.nil,by simp,by simp⟩
  | m + 1,h => by
    obtain ⟨vs,xs,h1,h2,h3,h4⟩:=open_row W n ih m (fun i hi => h i (by omega))
    obtain ⟨y,hy,hlw⟩:=h m (by omega)
    rw [Option.bind_eq_some_iff] at hy
    obtain ⟨cs,hcs,hy⟩:=hy
    obtain ⟨ds,e1,e2,e3⟩:=ih _ _ hy hlw
    obtain ⟨v,x,f1,f2,f3,f4,_⟩:=open_elem W n e1 e2 e3
    obtain ⟨_,g2,g3⟩:=World.cells?_some hcs
    refine ⟨vs ++ [v],xs ++ [x],by simp [h1],append_encL h2 (.cons f1 .nil),?_,?_⟩
    · intro u hu
      rcases List.mem_append.1 hu with hu | hu
      · exact h3 u hu
      · simp at hu; subst hu; exact ⟨f3,f4⟩
    · intro i z hz
      have hxl:xs.length = m:=by rw [← h2.length,h1]
      by_cases hi:i < m
      · rw [List.getElem?_append_left (by omega)] at hz
        exact h4 i z hz
      · have hil:=(List.getElem?_eq_some_iff.1 hz).1
        simp at hil
        have:i = m:=by omega
        subst this
        rw [List.getElem?_append_right (by omega),hxl,Nat.sub_self] at hz
        simp at hz; subst hz
        have hsz:x.cells.size = cs.length:=by rw [← f2]; simp
        refine ⟨by omega,fun j y' hj => ?_⟩
        have hjl:=(Array.getElem?_eq_some_iff.1 hj).1
        rw [g3 j (by omega),← f2]
        simpa using hj
theorem open_plain (W:World) {ts:List TypeId} (hp:∀ t,ts.contains t = true → plainT P ts t = true):∀ (n:Nat) (t:TypeId) (cs:List Value) (x:DataW H × List MemPlace),ts.contains t = true →
    DataW.trod enc P W base (fun _ => true) held n t cs = some x → lightW P t x.1 → ∃ ds,EncL bareO W ds cs ∧ (∀ d ∈ ds,d.scalar = true) ∧ tyV P n t ds:=by
  intro n
  induction n with
  | zero => intro t cs x _ h; simp [DataW.trod] at h
  | succ n ih =>
    intro t cs x ht h hlw
    have hpt:=hp t ht
    unfold plainT at hpt
    split at hpt
    · rename_i hu
      obtain ⟨b,rfl,_⟩:=DataW.trod_bool hu h
      refine ⟨[.bool b],.cons (.bool b) .nil,by simp [DV.scalar],?_⟩
      unfold tyV; rw [hu]; exact ⟨b,rfl⟩
    · rename_i k hu
      obtain ⟨m,rfl,_,hw⟩:=DataW.trod_int hu h
      refine ⟨[.int k m],.cons (.int k m) .nil,by simp [DV.scalar],?_⟩
      unfold tyV; rw [hu]; exact ⟨m,rfl,hw⟩
    · rename_i hu
      obtain ⟨s,rfl,hxe,hw⟩:=DataW.trod_string hu h
      have hr:s.data.toList.length ≤ reachBytes:=by
        rw [hxe] at hlw
        exact hlw _ (by rw [DataW.weights]; exact List.mem_singleton_self _)
      have e:(⟨s.data.toList.toArray⟩:ByteArray) = s:=by cases s; simp
      have hl:s.data.toList.length ≤ maxLen:=by rw [Array.length_toList]; exact hw
      have h1:Enc bareO W (.str s.data.toList) (.string ⟨s.data.toList.toArray⟩):=.str _ (by unfold maxLen at hl; omega)
      rw [e] at h1
      refine ⟨[.str s.data.toList],.cons h1 .nil,by simp [DV.scalar],?_⟩
      unfold tyV; rw [hu]; exact ⟨_,rfl,hr⟩
    · rename_i e hu
      simp only [Bool.and_eq_true,decide_eq_true_eq] at hpt
      obtain ⟨hte,hpos⟩:=hpt
      rcases DataW.trod_slice hu h with ⟨rfl,_⟩ | ⟨a,len,cap,elems,rest,n',hn,rfl,hxe,hb,hl,hm,hlen,hel,hsp,_⟩
      · refine ⟨[.slc (P.cellsOf e) []],.cons (.slcNil _) .nil,by simp [DV.scalar],?_⟩
        unfold tyV; rw [hu]; exact ⟨[],rfl,by simp,by simp⟩
      · have hn' : n' = n:=by omega
        subst hn'
        obtain ⟨hrl,hr⟩:=hsp rfl
        have hwe:∀ y ∈ elems ++ rest,lightW P e y.1:=by
          rw [hxe] at hlw
          unfold lightW at hlw
          rw [DataW.weights,hu] at hlw
          dsimp only at hlw
          intro y hy
          rcases List.mem_append.1 hy with hy | hy
          · exact light_all (fun n hn => hlw n (List.mem_cons_of_mem _ (List.mem_append_left _ hn))) _ (List.mem_map_of_mem hy)
          · exact light_all (fun n hn => hlw n (List.mem_cons_of_mem _ (List.mem_append_right _ hn))) _ (List.mem_map_of_mem hy)
        have each:∀ i,i < cap → ∃ y,(W.cells? base (a.add (i * P.cellsOf e)) (P.cellsOf e)).bind (DataW.trod enc P W base (fun _ => true) held n' e) = some y ∧ lightW P e y.1:=by
          intro i hi
          by_cases hil:i < len
          · exact ⟨elems[i]'(by omega),by rw [hel i hil]; exact List.getElem?_eq_getElem _,hwe _ (List.mem_append_left _ (List.getElem_mem _))⟩
          · refine ⟨rest[i - len]'(by omega),?_⟩
            have:=hr (i - len) (by omega)
            rw [show len + (i - len) = i by omega] at this
            rw [this]; exact ⟨List.getElem?_eq_getElem _,hwe _ (List.mem_append_right _ (List.getElem_mem _))⟩
        obtain ⟨vs,xs,h1,h2,h3,h4⟩:=open_row W n' (fun cs x hx hw => ih e cs x hte hx hw) len (fun i hi => each i (by omega))
        refine ⟨[.slc (P.cellsOf e) vs],?_,by simp [DV.scalar],?_⟩
        · refine .cons ?_ .nil
          by_cases hc:cap = 0
          · have:len = 0:=by omega
            subst this; subst hc
            have:vs = []:=List.eq_nil_of_length_eq_zero h1
            subst this
            exact .slcZ _ a
          · have hs:a.spot = none:=by
              obtain ⟨y,hy,_⟩:=each 0 (by omega)
              rw [Option.bind_eq_some_iff] at hy
              obtain ⟨cs,hcs,_⟩:=hy
              obtain ⟨_,g2,g3⟩:=World.cells?_some hcs
              have:=g3 0 hpos
              rw [List.getElem?_eq_getElem (by omega),Nat.zero_mul] at this
              have e0:(a.add 0).add 0 = a:=by simp [Addr.add]
              rw [e0] at this
              exact cell_spot this
            obtain ⟨b,off,sp⟩:=a
            dsimp only at hs
            subst hs
            subst h1
            refine .slc _ vs b off cap xs hl (by unfold maxLen at hm; omega) h2 fun i x hx => ?_
            obtain ⟨k1,k2⟩:=h4 i x hx
            refine ⟨k1,fun j y hy => ⟨?_,fun lo p h => by cases h⟩⟩
            have:=k2 j y hy
            rw [add_add] at this
            exact this
        · unfold tyV; rw [hu]; exact ⟨vs,rfl,by omega,h3⟩
    · rename_i fs hu
      simp only [Bool.and_eq_true,beq_iff_eq,List.all_eq_true] at hpt
      obtain ⟨hlay,hall⟩:=hpt
      obtain ⟨ys,m,hm,hxe,hcl,hyl,hf⟩:=DataW.trod_struct hu h
      have hm' : m = n:=by omega
      subst hm'
      obtain ⟨_,ds,d1,d2,d3⟩:=open_fields (cs:=cs) W m (fun t cs x ht hx hw => ih t cs x ht hx hw) fs.toList 0 _ hlay hall (by omega) (fun f hfm => by
        obtain ⟨i,hi⟩:=List.getElem?_of_mem hfm
        have hi' : fs[i]? = some f:=by simpa using hi
        have hlt:i < fs.size:=(Array.getElem?_eq_some_iff.1 hi').1
        refine ⟨ys[i]'(by omega),by rw [hf i f hi']; exact List.getElem?_eq_getElem _,?_⟩
        rw [hxe] at hlw
        unfold lightW at hlw
        rw [DataW.weights,hu] at hlw
        dsimp only at hlw
        exact light_each hlw i _ _ (by rw [List.getElem?_map,hi]; rfl) (by rw [List.getElem?_map,List.getElem?_eq_getElem (by omega)]; rfl))
      rw [List.drop_zero,Nat.sub_zero,← hcl,List.take_length] at d1
      refine ⟨ds,d1,d2,?_⟩
      unfold tyV; rw [hu]
      refine ⟨by rw [d1.length,hcl],fun f hfm => ?_⟩
      exact (d3 f hfm).2
    · cases hpt
theorem open_arg {W:World} {ts:List TypeId} {t:TypeId} {r:Reach} {b0:Nat} {v:Value} {d:DataW H} {ps:List MemPlace} (hp:∀ t,ts.contains t = true → plainT P ts t = true) (ht:ts.contains t = true)
    (hval:Value.okWide P W r b0 t v) (hd:DataW.Trod enc P W base (fun _ => true) held t v d ps) (hlw:lightW P t d) :
    ∃ (n:Nat) (u:DV),PEnc bareO W [] (.d u) v ∧ isAgg u = isStruct P t ∧ tyV P n t u.cells:=by
  obtain ⟨n,hf⟩:=hd
  obtain ⟨ds,e1,e2,e3⟩:=open_plain W hp n t _ _ ht hf hlw
  obtain ⟨u,x,f1,f2,f3,f4,f5⟩:=open_elem W n e1 e2 e3
  have hx:x = v:=by
    rw [f5]
    have hpt:=hp t ht
    unfold plainT at hpt
    unfold isStruct
    split at hpt
    · rename_i hu
      obtain ⟨b,rfl⟩:=okWide_bool hu hval
      rw [hu]; rfl
    · rename_i k hu
      obtain ⟨b,rfl⟩:=okWide_int hu hval
      rw [hu]; rfl
    · rename_i hu
      obtain ⟨b,rfl⟩:=okWide_string hu hval
      rw [hu]; rfl
    · rename_i e hu
      obtain ⟨a,l,c,rfl⟩:=okWide_slice hu hval
      rw [hu]; rfl
    · rename_i fs hu
      obtain ⟨cs,rfl,_⟩:=okWide_struct hu hval
      rw [hu]
      simp [Value.cells]
    · cases hpt
  subst hx
  exact ⟨n,u,.d f1,f3,f4⟩
end
end Lt
end Go.PS
end

section
namespace Go.PS
namespace Lt
open Go.ChangeShapes Go.WideShapes
def leafF (g:TypeId → Option (List TypeId)):List Field → Option (List TypeId)
  | [] => some []
  | f :: l => match g f.type,leafF g l with
    | some a,some b => some (a ++ b)
    | _,_ => none
def leafT (P:Program):Nat → TypeId → Option (List TypeId)
  | 0,_ => none
  | n + 1,t => match P.underlying t with
    | some (.struct fs) => leafF (leafT P n) fs.toList
    | _ => some [t]
inductive Leaves (P:Program) (n:Nat):List TypeId → List DV → Prop where
  | nil:Leaves P n [] []
  | cons {u us d ds}:tyV P n u [d] → Leaves P n us ds → Leaves P n (u :: us) (d :: ds)
theorem Leaves.append {P:Program} {n:Nat} {a b:List TypeId} {x y:List DV} (h:Leaves P n a x) (h2:Leaves P n b y):Leaves P n (a ++ b) (x ++ y):=by
  induction h with
  | nil => exact h2
  | cons h _ ih => exact .cons h ih
theorem tyV_mono {P:Program}:∀ (n:Nat) (t:TypeId) (ds:List DV),tyV P n t ds → tyV P (n + 1) t ds:=by
  intro n
  induction n with
  | zero => intro t ds h; exact h.elim
  | succ n ih =>
    intro t ds h
    rw [tyV] at h
    rw [tyV]
    cases hu:P.underlying t with
    | none => rw [hu] at h; exact h
    | some u =>
      rw [hu] at h
      cases u <;> try exact h
      · obtain ⟨vs,e,hl,hv⟩:=h
        exact ⟨vs,e,hl,fun v hm => ⟨(hv v hm).1,ih _ _ (hv v hm).2⟩⟩
      · exact ⟨h.1,fun f hf => ih _ _ (h.2 f hf)⟩
theorem Leaves.mono {P:Program} {n:Nat} {a:List TypeId} {x:List DV} (h:Leaves P n a x):Leaves P (n + 1) a x:=by
  induction h with
  | nil => exact .nil
  | cons h _ ih => exact .cons (tyV_mono _ _ _ h) ih
theorem flat_fields {P:Program} {N:Nat} {g:TypeId → Option (List TypeId)} {ds:List DV}:∀ (fs:List Field) (m k:Nat) (us:List TypeId),laidF P m fs = some k → k ≤ ds.length → leafF g fs = some us →
    (∀ f ∈ fs,∀ vs,g f.type = some vs → Leaves P N vs ((ds.drop f.offset).take (P.cellsOf f.type))) → m ≤ k ∧ Leaves P N us ((ds.drop m).take (k - m)):=by
  intro fs
  induction fs with
  | nil =>
    intro m k us h _ hu _
    simp only [laidF,Option.some.injEq] at h
    simp only [leafF,Option.some.injEq] at hu
    subst h; subst hu
    rw [Nat.sub_self,List.take_zero]
    exact ⟨Nat.le_refl _,.nil⟩
  | cons f l ih =>
    intro m k us h hk hu hf
    simp only [laidF] at h
    split at h
    · rename_i ho
      unfold leafF at hu
      split at hu
      · rename_i a b ha hb
        obtain rfl:=Option.some.inj hu
        obtain ⟨h1,h2⟩:=ih _ _ _ h hk hb (fun f' hf' => hf f' (List.mem_cons_of_mem _ hf'))
        refine ⟨by omega,?_⟩
        have e:(ds.drop m).take (k - m) = (ds.drop m).take (P.cellsOf f.type) ++ (ds.drop (m + P.cellsOf f.type)).take (k - (m + P.cellsOf f.type)):=by
          rw [← List.drop_drop,show k - m = P.cellsOf f.type + (k - (m + P.cellsOf f.type)) by omega,List.take_add]
        rw [e]
        have:=hf f List.mem_cons_self a ha
        rw [ho] at this
        exact this.append h2
      · simp at hu
    · simp at h
theorem ty_flat {P:Program} {ts:List TypeId} (hp:∀ t,ts.contains t = true → plainT P ts t = true):∀ (n' n:Nat) (t:TypeId) (ds:List DV) (us:List TypeId),ts.contains t = true → leafT P n' t = some us → tyV P n t ds → Leaves P n us ds:=by
  intro n'
  induction n' with
  | zero => intro n t ds us _ h; simp [leafT] at h
  | succ n' ih =>
    intro n t ds us ht hl hv
    have hpt:=hp t ht
    cases n with
    | zero => exact hv.elim
    | succ n =>
    have one:∀ d,ds = [d] → leafT P (n' + 1) t = some [t] → Leaves P (n + 1) us ds:=by
      intro d e he
      rw [hl] at he
      obtain rfl:=Option.some.inj he
      subst e
      exact .cons hv .nil
    unfold leafT at hl one
    have hv':=hv
    rw [tyV] at hv'
    unfold plainT at hpt
    cases hu:P.underlying t with
    | none => rw [hu] at hpt; simp at hpt
    | some u =>
      rw [hu] at hpt hv' one hl
      cases u <;> first | (obtain ⟨b,e,_⟩:=hv'; exact one _ e rfl) | (obtain ⟨b,e⟩:=hv'; exact one _ e rfl) | (simp at hpt; done) | skip
      all_goals try (exact hv'.elim)
      · rename_i fs
        dsimp only at hl hpt hv'
        simp only [Bool.and_eq_true,beq_iff_eq,List.all_eq_true] at hpt
        obtain ⟨hlay,hall⟩:=hpt
        obtain ⟨hlen,hf⟩:=hv'
        have:=(flat_fields (ds:=ds) (N:=n + 1) fs.toList 0 _ us hlay (by omega) hl (fun f hfm vs hvs => by
          have:=ih n f.type _ vs (by simpa using hall f hfm) hvs (hf f hfm)
          exact this.mono)).2
        rw [List.drop_zero,Nat.sub_zero,← hlen,List.take_length] at this
        exact this
end Lt
end Go.PS
end
