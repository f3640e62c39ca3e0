/- A part of the proof of the claim (the pure semantics PS and the contracts of the functions over it). -/
import Derived.Test.YtcjcppnclfbjpaaGreatDoorU0
import Derived.Orders
import Derived.LoopN
import Derived.Laws.StructEq
import Derived.Recover
set_option linter.all false
section
namespace Go.PS
open Go.RowKit
section
variable {P:Program} {C:Ctx} {W0:World} {o:Own} {sig:List Nat} {st:St} {a:Act} {w:World} {R:Type} {tm:Array Value}
  {oper:Oper} {kp:DV → List PObj → Option R} {k:St → Option R} {r:R} {next:Act → World → Prop} {Q:Exit → Act → World → Prop} {sy:Sy}
theorem Grow.cells {o' : Own} {w' : World} (h:Grow o w o' w'):∀ b off v,w.cell? ⟨b,off,none⟩ = some v → w'.cell? ⟨b,off,none⟩ = some v:=by
  intro b off v hv
  rw [World.cell?_of_block (w:=w) (h.same b (cell_lt hv)).1]; exact hv
theorem quiet_pop (hq:quiet oper.op = true) (h:popK C sy oper st kp k = some r):pureK C oper.op st (fun v => k (st.put oper.dst v)) = some r ∧ (∀ x,oper.op ≠ .move x) ∧ (∀ x,oper.op ≠ .assign x) ∧ ∀ c x y vs,oper.op = .pick c x y → ev st x ≠ .tup vs ∧ ev st y ≠ .tup vs:=by
  obtain ⟨dst,op,ty,pos,after,guard⟩:=oper
  cases op <;> simp only [quiet] at hq <;> first | cases hq | skip
  case pick c x y =>
    simp only [popK] at h
    rw [bif_none_some] at h
    obtain ⟨h1,h⟩:=h
    simp only [Bool.or_eq_false_iff] at h1
    refine ⟨h,by simp,by simp,?_⟩
    intro c' x' y' vs e
    cases e
    refine ⟨fun e => ?_,fun e => ?_⟩
    · rw [e] at h1; simp [isTup] at h1
    · rw [e] at h1; simp [isTup] at h1
  case call c =>
    obtain ⟨callee,args,ats⟩:=c
    cases callee with
    | builtin b => cases b <;> first | exact ⟨h,by simp,by simp,by simp⟩ | cases hq
    | _ => cases hq
  all_goals exact ⟨h,by simp,by simp,by simp⟩
theorem popK_syn (hC:TyOk P C) (hE:EnvOk P W0 C) (hr:Rel W0 o sig st a.tmps w) (hsy:Syn a w sy) (hc:Conts2 C st sy W0 o sig w a oper kp k r next Q)
    (h:popK C sy oper st kp k = some r):oper.wp P a w next Q:=by
  by_cases hq:quiet oper.op = true
  · obtain ⟨h1,h2,h3,h4⟩:=quiet_pop hq h
    obtain ⟨v,g1,y,w',g2,g3,g4,g5⟩:=pureK_sound hC hr oper.type h1 (by
      rintro x vs (e | e)
      · exact absurd e (h2 x)
      · exact absurd e (h3 x)) h4
    have hrun:=g2 oper.dst oper.pos oper.after oper.guard
    refine wp_value hrun (hc.hk y _ o sig w' g1 ((hr.grow g3).put g4 fun d _ k => g5 d k) g3.step (.refl _) ?_)
    have:syncs C oper st sy = dropO oper.dst sy:=by
      unfold syncs
      split
      · rename_i e; rw [e] at hq; simp [quiet] at hq
      · rename_i e; rw [e] at hq; simp [quiet] at hq
      · rename_i e; rw [e] at hq; simp [quiet] at hq
      · rw [hq]; rfl
    rw [this]
    exact hsy.drop g3.cells
  · by_cases hm:∃ t,oper.op = .move (.tmp t)
    · obtain ⟨t,hm⟩:=hm
      have hrun:(execOp a.eval oper).run P w = .ok (.value (a.tmps.getD t undef)) w:=by
        simp [execOp,hm,Act.eval]
      refine wp_imp hrun (popK_wp hC hE hr hsy ⟨fun x st' o' sig' w' g1 g2 g3 g4 e1 e2 => hc.hk x st' o' sig' w' g1 g2 g3 g4 ?_,hc.hp⟩ h)
      rw [e1,e2]
      unfold syncs
      rw [hm]
      dsimp only
      cases hd:oper.dst with
      | none =>
        dsimp only
        have:=hsy.drop (d:=none) (x:=a.tmps.getD t undef) (w':=w) fun _ _ _ h => h
        exact this
      | some d =>
        dsimp only
        have hdr:=hsy.drop (d:=some d) (x:=a.tmps.getD t undef) (w':=w) fun _ _ _ h => h
        cases hb:Nat.beq d t
        · refine hsy.add (fun _ _ _ h => h) fun hlt => ?_
          have hne:t ≠ d:=by rintro rfl; simp at hb
          simp only [SyncAt,Act.put,getD_ne hne]
          simp [Array.getD,hlt]
        · exact hdr
    · by_cases hl:∃ T t,oper.op = .load T (.tmp t)
      · obtain ⟨T,t,hl⟩:=hl
        have h' : (match ev st (.tmp t) with
          | .ptr id off => heapCells st.heap id fun cs => loadCells (C.ty T) (dr cs off) fun v => k (st.put oper.dst v)
          | .ro vs => loadCells (C.ty T) (dCells vs) fun v => k (st.put oper.dst v)
          | _ => none) = some r:=by
          unfold popK at h; rw [hl] at h; exact h
        obtain ⟨v,y,h1,h2,h3,h4,h5,h6⟩:=load_run (oper:=oper) hC hr hl h'
        refine wp_value h2 (hc.hk _ _ o sig w h1 (hr.put_plain h3 h4 h5) (.refl _ _) (.refl _) ?_)
        unfold syncs
        rw [hl]
        dsimp only
        cases hd:oper.dst with
        | none =>
          dsimp only
          have:=hsy.drop (d:=none) (x:=y) (w':=w) fun _ _ _ h => h
          exact this
        | some d =>
          dsimp only
          have hdr:=hsy.drop (d:=some d) (x:=y) (w':=w) fun _ _ _ h => h
          cases hb:(Nat.beq d t || !isScalar (C.ty T).ty)
          · simp only [Bool.or_eq_false_iff,Bool.not_eq_false'] at hb
            refine hsy.add (fun _ _ _ h => h) fun hlt => ?_
            have hne:t ≠ d:=by rintro rfl; simp at hb
            simp only [SyncAt,Act.put,getD_ne hne]
            intro b off he
            rw [h6 hb.2 b off he]
            simp [Array.getD,hlt]
          · exact hdr
      · by_cases hcl:∃ f args ats s,oper.op = .call { callee:=.value (.func f),args,argTypes:=ats } ∧ C.env f = some (.pure s)
        · obtain ⟨f,args,ats,s,hcl,hs⟩:=hcl
          have h' : ((s (bargs [] (evs st args.toList))).run fun v => k (st.put oper.dst v)) = some r:=by
            unfold popK at h
            rw [hcl] at h
            simp only [PS.ev,hs] at h
            exact h
          obtain ⟨v,hv,h'⟩:=Tr.run_some h'
          refine wp_callP hr hcl (hE f _ hs) rfl hv fun x o' w' hg hr' => hc.hk x _ o' sig w' h' hr' hg.step (.refl _) ?_
          have:syncs C oper st sy = dropO oper.dst sy:=by
            unfold syncs; rw [hcl]; simp [pureCallee,hs]
          rw [this]
          exact hsy.drop hg.cells
        · by_cases hcf:∃ f args ats s,oper.op = .call { callee:=.value (.func f),args,argTypes:=ats } ∧ C.env f = some (.fr s)
          · obtain ⟨f,args,ats,s,hcl',hs⟩:=hcf
            have h' : ((frameT s (bargs [] (evs st args.toList)) st.heap).run fun p => (match p with
                | (.ret v,h) => k (St.put ⟨st.slots,h⟩ oper.dst v)
                | (.pan v,h) => kp v h)) = some r:=by
              unfold popK at h
              rw [hcl'] at h
              simp only [PS.ev,hs] at h
              exact h
            obtain ⟨⟨out,H⟩,hv,h'⟩:=Tr.run_some h'
            rw [frameT_val] at hv
            unfold PS.frame at hv
            have hsy' : syncs C oper st sy = dropO oper.dst (fun u => keepO (visit 200 st.heap [] (bargs [] (evs st args.toList))) st (sy u)):=by
              unfold syncs; rw [hcl']; simp [pureCallee,frCallee,hs]
            refine wp_callX (H':=H) (X:=fun w' => ∀ id b,idx id (visit 200 st.heap [] (bargs [] (evs st args.toList))) = none → o b = some (0,.obj id) → w'.heap[b]? = w.heap[b]?) hr hcl'
              (fun x st' o' sig' w' g1 g2 g3 g4 hX => hc.hk x st' o' sig' w' g1 g2 g3 g4 ?_) hc.hp (hE f _ hs).enters rfl
              (fun oi xs hoi hg hh hx => (Sound.frameF (hE f _ hs) _ hv hg hh hx).mono fun e w' hp => ⟨hp.1,fun id b h1 h2 => hp.2 id b h1 (hoi _ _ _ h2)⟩) (out:=out) (by cases out <;> exact h')
            rw [hsy']
            have hkeep:∀ t,t < a.tmps.size → SyncAt a w' t (keepO (visit 200 st.heap [] (bargs [] (evs st args.toList))) st (sy t)):=by
              intro t ht
              have h0:=hsy t ht
              cases hg:sy t with
              | self => trivial
              | slot v => rw [hg] at h0; exact h0
              | cell ad =>
                rw [hg] at h0
                show SyncAt a w' t (match gt .undef st.slots ad with
                  | .ptr id _ => bif apartR (visit 200 st.heap [] (bargs [] (evs st args.toList))) st.heap id then .cell ad else .self
                  | _ => .self)
                split
                · rename_i id off hptr
                  cases hb:apartR (visit 200 st.heap [] (bargs [] (evs st args.toList))) st.heap id with
                  | false => trivial
                  | true =>
                    simp only [apartR,Bool.and_eq_true,Bool.not_eq_true'] at hb
                    intro b off' he
                    have hlt:id < st.heap.length:=Nat.le_of_ble_eq_true hb.1
                    obtain ⟨b2,k1,k2,_⟩:=hr.hp.obj id _ (List.getElem?_eq_getElem hlt)
                    have hsl:=hr.slot ad
                    rw [hptr,he] at hsl
                    obtain ⟨b3,k3,k4⟩:=hsl.ptr_inv
                    simp at k4
                    rw [k1] at k3; simp at k3
                    have hidx:idx id (visit 200 st.heap [] (bargs [] (evs st args.toList))) = none:=by
                      cases hi:idx id (visit 200 st.heap [] (bargs [] (evs st args.toList))) with
                      | none => rfl
                      | some j =>
                        exfalso
                        have hm:=List.mem_of_getElem? (idx_get hi)
                        have:∀ l:List Nat,id ∈ l → memN id l = true:=by
                          intro l
                          induction l with
                          | nil => intro h; simp at h
                          | cons u l ih =>
                            intro hm
                            simp only [memN,Bool.or_eq_true]
                            rcases List.mem_cons.1 hm with e | e
                            · subst e; exact .inl (by simp)
                            · exact .inr (ih e)
                        rw [this _ hm] at hb; simp at hb
                    have hsame:=hX id b2 hidx k2
                    have:=h0 b off' he
                    rw [World.cell?_of_block (w:=w) (by rw [k4.1,← k3]; exact hsame)]
                    exact this
                · trivial
            have hst:∀ b off v,w.cell? ⟨b,off,none⟩ = some v → w.cell? ⟨b,off,none⟩ = some v:=fun _ _ _ h => h
            -- the destination's own slot is dropped
            intro t ht
            cases hd:oper.dst with
            | none =>
              exact hkeep t (by rw [hd] at ht; simpa [Act.put] using ht)
            | some d =>
              show SyncAt (a.put (some d) x) w' t (dropS d (fun u => keepO (visit 200 st.heap [] (bargs [] (evs st args.toList))) st (sy u)) t)
              unfold dropS
              cases hb:Nat.beq t d
              · have:=hkeep t (by rw [hd] at ht; simpa [Act.put] using ht)
                exact this.keep (by rintro rfl; simp at hb) fun _ _ _ h => h
              · trivial
          · refine popK_wp hC hE hr hsy ⟨fun x st' o' sig' w' g1 g2 g3 g4 => hc.hk x st' o' sig' w' g1 g2 g3 g4 ?_,hc.hp⟩ h
            have:syncs C oper st sy = noSy:=by
              unfold syncs
              split
              · rename_i e; exact absurd ⟨_,e⟩ hm
              · rename_i e; exact absurd ⟨_,_,e⟩ hl
              · rename_i f args ats e
                have:pureCallee C f = false:=by
                  unfold pureCallee
                  split
                  · split
                    · rename_i hs; exact absurd ⟨_,_,_,_,e,hs⟩ hcl
                    · rfl
                  · rfl
                have h2:frCallee C f = false:=by
                  unfold frCallee
                  split
                  · split
                    · rename_i hs; exact absurd ⟨_,_,_,_,e,hs⟩ hcf
                    · rfl
                  · rfl
                rw [this,h2]; rfl
              · simp [hq]
            rw [this]; exact .nil
theorem put_defers (d:Option Tmp) (x:Value):(a.put d x).defers = a.defers:=by cases d <;> rfl
theorem Rel.lit (hr:Rel W0 o sig st a.tmps w) {t:Nat} {b:Bool} (h:gt .undef st.slots t = .d (.bool b)):Rel W0 o sig (st.set t (.d (.bool b))) a.tmps w:=by
  refine hr.setPS ?_ fun k => cap_cmp_noOwn (v:=.d (.bool b)) trivial (by simp) k
  have:=hr.slot t
  rw [h] at this; exact this
theorem PEnc.skp_inv {x:Value} (h:PEnc o w sig .skp x):x = Go.undef:=by cases h; rfl
theorem guarded_inv {ops:List Oper} {y n:St → Option R} (hr:Rel W0 o sig st a.tmps w) (h:guarded ops oper st y n = some r) :
    ∃ st',Rel W0 o sig st' a.tmps w ∧ ((Region.wanted oper (yielded ops.toArray a.tmps) = true ∧ y st' = some r) ∨ (Region.wanted oper (yielded ops.toArray a.tmps) = false ∧ n st' = some r)):=by
  unfold guarded at h
  split at h
  · rename_i hg
    exact ⟨st,hr,.inl ⟨by simp [Region.wanted,hg],h⟩⟩
  · rename_i j want hg
    rw [gt_some] at h
    split at h
    · rename_i g hj
      split at h
      · rename_i t ht
        split at h
        · rename_i b hb
          have hv:a.tmps.getD t undef = .bool b:=by
            have:=hr.slot t
            rw [hb] at this; exact this.bool_inv
          have hy:yielded ops.toArray a.tmps j = some b:=by
            have hl:t < a.tmps.size:=by
              by_cases hl:t < st.slots.length
              · exact Nat.lt_of_lt_of_le hl hr.len
              · rw [gt_eq,List.getElem?_eq_none (Nat.le_of_not_lt hl)] at hb; simp at hb
            have:a.tmps[t]? = some (.bool b):=by
              rw [Array.getElem?_eq_getElem hl]
              simp [Array.getD,hl] at hv; rw [hv]
            simp [yielded,hj,ht,this]
          have hw:Region.wanted oper (yielded ops.toArray a.tmps) = (b == want):=by
            simp [Region.wanted,hg,hy]
          cases want
          · simp only [cond_false] at h
            rw [cnd_some] at h
            rcases h with ⟨rfl,h⟩ | ⟨rfl,h⟩
            · exact ⟨_,hr.lit hb,.inr ⟨by rw [hw]; rfl,h⟩⟩
            · exact ⟨_,hr.lit hb,.inl ⟨by rw [hw]; rfl,h⟩⟩
          · simp only [cond_true] at h
            rw [cnd_some] at h
            rcases h with ⟨rfl,h⟩ | ⟨rfl,h⟩
            · exact ⟨_,hr.lit hb,.inl ⟨by rw [hw]; rfl,h⟩⟩
            · exact ⟨_,hr.lit hb,.inr ⟨by rw [hw]; rfl,h⟩⟩
        · rename_i hb
          have hv:a.tmps.getD t undef = undef:=by
            have:=hr.slot t
            rw [hb] at this; exact this.skp_inv
          refine ⟨st,hr,.inr ⟨?_,h⟩⟩
          have hy:yielded ops.toArray a.tmps j = none:=by
            have:(a.tmps[t]?).getD undef = undef:=by simpa using hv
            cases hx:a.tmps[t]? with
            | none => simp [yielded,hj,ht,hx]
            | some x =>
              rw [hx] at this
              have:x = undef:=this
              subst this
              simp [yielded,hj,ht,hx,undef]
          simp [Region.wanted,hg,hy]
        · simp at h
      · simp at h
    · simp at h
def Kept (l:List Oper) (a a' : Act):Prop:=∀ I:Act → Prop,(∀ op ∈ l,∀ b x,I b → I (b.put op.dst x)) → I a → I a'
theorem Kept.refl (l:List Oper) (a:Act):Kept l a a:=fun _ _ h => h
theorem Kept.cons {op:Oper} {l:List Oper} {a a' : Act} {x:Value} (h:Kept l (a.put op.dst x) a'):Kept (op :: l) a a' :=
  fun I hI ha => h I (fun o ho => hI o (List.mem_cons_of_mem _ ho)) (hI op (List.mem_cons_self ..) _ _ ha)
theorem Kept.mem {op:Oper} {l:List Oper} {a a' : Act} {x:Value} (hm:op ∈ l) (h:Kept l (a.put op.dst x) a'):Kept l a a' :=
  fun I hI ha => h I hI (hI op hm _ _ ha)
theorem lend_rel {sy:Sy} {op:Oper} (hr:Rel W0 o sig st a.tmps w) (hsy:Syn a w sy):∃ o',Rel W0 o' sig (lendS C sy op st) a.tmps w ∧ Step o w o' w:=by
  unfold lendS
  cases C.lend with
  | false => exact ⟨o,hr,.refl _ _⟩
  | true =>
    simp only [cond_true]
    split
    · rename_i t _
      split
      · rename_i sz0 vs0 v hv0 hsv
        split
        · rename_i sz vs hv
          have hlt:t < st.slots.length:=by
            by_cases hl:t < st.slots.length
            · exact hl
            · rw [gt_eq,List.getElem?_eq_none (Nat.le_of_not_lt hl)] at hv0; simp at hv0
          have hs0:=hsy t (Nat.lt_of_lt_of_le hlt hr.len)
          rw [hsv] at hs0
          have hs:=hr.slot v
          have hcap:=hr.cap v 0
          rw [hv] at hs hcap
          have hcap:Cap o w (.slot v 0) (.own sz vs) (a.tmps.getD v undef):=hcap.cmp0 (by simp)
          have h1:=hr.setPS (d:=v) hs.plain (fun k => cap_cmp_noOwn (v:=.d (.slc sz vs)) trivial (by simp) k)
          have h2:=h1.mvSlot t (t:=v) (fun k => St.set_gt (v:=.d (.slc sz vs)) trivial (by simp) k)
          refine ⟨_,h2.setPS (d:=t) (v:=.own sz vs) ?_ ?_,mv_step v t⟩
          · rw [hs0]; exact hs.mono (fun _ _ _ h => rel_stab h) fun _ _ h => h
          · intro k; rw [hs0]; exact cap_own_cmp (cap_mv hcap) k
        · exact ⟨o,hr,.refl _ _⟩
      · exact ⟨o,hr,.refl _ _⟩
    · exact ⟨o,hr,.refl _ _⟩
theorem popsK_sound (hC:TyOk P C) (hE:EnvOk P W0 C) {ops:List Oper} {k:St → Option R}:∀ (l:List Oper) {sy:Sy} {st:St} {a:Act} {o:Own} {sig:List Nat} {w:World},Rel W0 o sig st a.tmps w → Syn a w sy →
    (∀ a' st' o' sig' w',k st' = some r → Rel W0 o' sig' st' a'.tmps w' → Step o w o' w' → SigExt sig sig' → Kept l a a' → Q .normal a' w') →
    (∀ a' v x hp' o' sig' w',kp v hp' = some r → Enc o' w' v x → RelH o' sig' hp' w' → Gl W0 o' w' → Step o w o' w' → SigExt sig sig' → Kept l a a' → Q (.panic [{ v:=x,recovered:=false }]) a' w') →
    popsK C ops kp k l sy st = some r → wpList P ops.toArray Q l a w:=by
  intro l
  induction l with
  | nil =>
    intro sy st a o sig w hr hsy hk hp h
    exact hk _ _ _ _ _ h hr (.refl _ _) (.refl _) (.refl _ _)
  | cons op l ih =>
    intro sy st a o sig w hr hsy hk hp h
    simp only [popsK] at h
    obtain ⟨st',hr',h⟩:=guarded_inv hr h
    unfold wpList
    rcases h with ⟨hw,h⟩ | ⟨hw,h⟩
    · rw [hw,if_pos rfl]
      obtain ⟨o1,hr1,s1⟩:=lend_rel (C:=C) (op:=op) hr' hsy
      refine .inl (popK_syn hC hE hr1 hsy ⟨?_,?_⟩ h)
      · intro x st2 o2 sig2 w2 g1 g2 g3 g4 g5
        replace g3:=s1.trans g3
        refine ih g2 g5 (fun a' st3 o3 sig3 w3 k1 k2 k3 k4 k5 => hk a' st3 o3 sig3 w3 k1 k2 (g3.trans k3) (g4.trans k4) k5.cons) (fun a' v x hp' o' sig' w' k1 k2 k3 k4 k5 k6 k7 => hp a' v x hp' o' sig' w' k1 k2 k3 k4 (g3.trans k5) (g4.trans k6) k7.cons) g1
      · intro v x hp' o' sig' w' k1 k2 k3 k4 k5 k6
        exact hp a v x hp' o' sig' w' k1 k2 k3 k4 (s1.trans k5) k6 (.refl _ _)
    · rw [hw,if_neg (by simp)]
      refine ih (hr'.put (x:=undef) (v:=.skp) .skp fun d _ k => cap_cmp_noOwn (v:=.skp) trivial (by simp) k) (hsy.drop (d:=op.dst) (x:=undef) fun _ _ _ h => h)
        (fun a' st3 o3 sig3 w3 k1 k2 k3 k4 k5 => hk a' st3 o3 sig3 w3 k1 k2 k3 k4 k5.cons) (fun a' v x hp' o' sig' w' k1 k2 k3 k4 k5 k6 k7 => hp a' v x hp' o' sig' w' k1 k2 k3 k4 k5 k6 k7.cons) h
end
end Go.PS
end

section
namespace Go.PS
open Go.RowKit
section
variable {P:Program} {C:Ctx} {st st' : St} {R:Type} {op:Op} {k:PV → Option R}
def SameOn (st st' : St) (l:List Operand):Prop:=∀ x ∈ l,ev st' x = ev st x
theorem partsOf_ext:∀ {l:List (Nat × Operand)},SameOn st st' (l.map (·.2)) → partsOf st' l = partsOf st l:=by
  intro l
  induction l with
  | nil => intro _; rfl
  | cons p l ih =>
    intro h
    obtain ⟨i,x⟩:=p
    simp only [partsOf]
    rw [h x (by simp),ih fun y hy => h y (by simp at hy ⊢; exact .inr hy)]
theorem evs_ext:∀ {l:List Operand},SameOn st st' l → evs st' l = evs st l:=by
  intro l
  induction l with
  | nil => intro _; rfl
  | cons x l ih =>
    intro h
    simp only [evs]
    rw [h x (by simp),ih fun y hy => h y (List.mem_cons_of_mem _ hy)]
theorem boundK_ext {x:Option Operand} {d:Nat} {k:Int → Option R} (h:SameOn st st' x.toList):boundK st' x d k = boundK st x d k:=by
  cases x with
  | none => rfl
  | some x => simp only [boundK]; rw [h x (by simp)]
theorem sliceK_ext {t:TypeId} {x:PV} {lo hi:Option Operand} (h1:SameOn st st' lo.toList) (h2:SameOn st st' hi.toList):sliceK C t st' x lo hi k = sliceK C t st x lo hi k:=by
  unfold sliceK
  split
  · rw [boundK_ext h1]; congr 1; funext l; rw [boundK_ext h2]
  · rw [boundK_ext h1]; congr 1; funext l; rw [boundK_ext h2]
  · rfl
theorem pureK_ext (h:SameOn st st' op.operands.toList):pureK C op st' k = pureK C op st k:=by
  cases op with
  | move x => simp only [pureK]; rw [h x (by simp [Op.operands])]
  | assign x => simp only [pureK]; rw [h x (by simp [Op.operands])]
  | pick c a b => simp only [pureK]; rw [h c (by simp [Op.operands]),h a (by simp [Op.operands]),h b (by simp [Op.operands])]
  | build t ps => simp only [pureK]; rw [partsOf_ext (l:=ps.toList) (by simpa [Op.operands] using h)]
  | buildSlice t n ps => simp only [pureK]; rw [partsOf_ext (l:=ps.toList) (by simpa [Op.operands] using h)]
  | nilCheck x => simp only [pureK]; rw [h x (by simp [Op.operands])]
  | binOp op t x y ty =>
    have hx:=h x (by simp [Op.operands])
    have hy:=h y (by simp [Op.operands])
    unfold pureK
    split <;> simp_all
  | unOp op t x => simp only [pureK]; rw [h x (by simp [Op.operands])]
  | convert s d x => simp only [pureK]; rw [h x (by simp [Op.operands])]
  | makeInterface t x => simp only [pureK]; rw [h x (by simp [Op.operands])]
  | makeFunc f first cap =>
    cases f with
    | func f =>
      simp only [pureK]
      have h1:SameOn st st' cap.toList:=fun y hy => h y (by simp [Op.operands]; exact .inr (by simpa using hy))
      have h2:SameOn st st' first.toList:=fun y hy => h y (by simp [Op.operands]; exact .inl (by simpa using hy))
      rw [evs_ext h1,evs_ext h2]
    | _ => rfl
  | slice t x lo hi mx =>
    have hx:=h x (by simp [Op.operands])
    have hlo:SameOn st st' lo.toList:=fun y hy => h y (by simp [Op.operands] at hy ⊢; simp [hy])
    have hhi:SameOn st st' hi.toList:=fun y hy => h y (by simp [Op.operands] at hy ⊢; simp [hy])
    cases mx with
    | none => simp only [pureK]; rw [hx,sliceK_ext hlo hhi]
    | some m =>
      have hm:=h m (by simp [Op.operands])
      cases hi with
      | none => rfl
      | some y =>
        have hy:=h y (by simp [Op.operands])
        simp only [pureK]
        rw [hx,hm,hy]
        simp only [sliceK_ext hlo hhi]
  | fieldAddr t x f => simp only [pureK]; rw [h x (by simp [Op.operands])]
  | field t x f => simp only [pureK]; rw [h x (by simp [Op.operands])]
  | indexAddr t x i => simp only [pureK]; rw [h x (by simp [Op.operands]),h i (by simp [Op.operands])]
  | index t x i => simp only [pureK]; rw [h x (by simp [Op.operands]),h i (by simp [Op.operands])]
  | call c =>
    obtain ⟨callee,args,ats⟩:=c
    cases callee with
    | builtin b =>
      have ha:SameOn st st' args.toList:=by simpa [Op.operands,Call.operands] using h
      cases b <;> simp only [pureK] <;>
        first
        | rfl
        | (split
           · rename_i x hx
             rw [ha x (by rw [hx]; simp)]
           · rfl)
        | (split
           · rename_i x y hx
             rw [ha x (by rw [hx]; simp),ha y (by rw [hx]; simp)]
           · rfl)
    | _ => rfl
  | _ => rfl
end
end Go.PS
end

section
namespace Go.PS
open Go.RowKit
section
variable {P:Program} {C:Ctx} {st st' : St} {R:Type} {op:Op}
theorem cnd_bind {S:Type} (b:Bool) (x y:Option S) (k:S → Option R):(cnd b x y).bind k = cnd b (x.bind k) (y.bind k):=by cases b <;> rfl
theorem chk_bind {S:Type} (b:Bool) (x:Option S) (k:S → Option R):(chk b x).bind k = chk b (x.bind k):=by cases b <;> rfl
theorem bif_bind {S:Type} (b:Bool) (x y:Option S) (k:S → Option R):(bif b then x else y).bind k = bif b then x.bind k else y.bind k:=by cases b <;> rfl
theorem binK_nat (op:BinOp) (t:TypeId) (x y:DV) {S:Type} (f:DV → Option S) (k:S → Option R):(binK C op t x y f).bind k = binK C op t x y fun v => (f v).bind k:=by
  unfold binK
  (repeat' split) <;> simp only [chk_bind,bif_bind,Option.bind_none] <;> (try (repeat' split)) <;> (try rfl) <;> (try simp_all)
theorem unK_nat (op:UnOp) (x:DV) {S:Type} (f:DV → Option S) (k:S → Option R):(unK op x f).bind k = unK op x fun v => (f v).bind k:=by
  unfold unK
  split <;> rfl
theorem convK_nat (s d:TypeId) (x:DV) {S:Type} (f:DV → Option S) (k:S → Option R):(convK C s d x f).bind k = convK C s d x fun v => (f v).bind k:=by
  unfold convK
  (repeat' split) <;> simp only [chk_bind,Option.bind_none]
theorem boundK_nat (x:Option Operand) (d:Nat) {S:Type} (f:Int → Option S) (k:S → Option R):(boundK st x d f).bind k = boundK st x d fun v => (f v).bind k:=by
  unfold boundK
  (repeat' split) <;> rfl
theorem nth_nat (z l:List DV) (i:Nat) {S:Type} (f:List DV → Option S) (k:S → Option R):(nth z l i f).bind k = nth z l i fun v => (f v).bind k:=by
  unfold nth; simp only [chk_bind]
theorem nthB_nat (l:List UInt8) (i:Nat) {S:Type} (f:UInt8 → Option S) (k:S → Option R):(nthB l i f).bind k = nthB l i fun v => (f v).bind k:=by
  unfold nthB; simp only [chk_bind]
theorem sliceK_nat (t:TypeId) (x:PV) (lo hi:Option Operand) {S:Type} (f:PV → Option S) (k:S → Option R):(sliceK C t st x lo hi f).bind k = sliceK C t st x lo hi fun v => (f v).bind k:=by
  unfold sliceK
  split
  · simp only [boundK_nat,chk_bind]
  · simp only [boundK_nat,chk_bind,bif_bind,Option.bind_none]
  · rfl
theorem nilTest_nat (op:BinOp) (t:Bool) {S:Type} (f:PV → Option S) (k:S → Option R):(nilTest op t f).bind k = nilTest op t fun v => (f v).bind k:=by
  unfold nilTest
  split <;> rfl
theorem pureK_nat {S:Type} (f:PV → Option S) (k:S → Option R):(pureK C op st f).bind k = pureK C op st fun v => (f v).bind k:=by
  cases op with
  | pick c a b => simp only [pureK]; split <;> simp only [cnd_bind,Option.bind_none]
  | build t ps => simp only [pureK,bif_bind,Option.bind_none]; congr 1; (repeat' split) <;> rfl
  | buildSlice t n ps =>
    simp only [pureK]
    split
    · split
      · simp only [bif_bind,Option.bind_none]
      · rfl
    · rfl
  | nilCheck x => simp only [pureK]; split <;> rfl
  | binOp op t x y ty =>
    unfold pureK
    split <;> first
      | contradiction
      | (split
         · split <;> simp only [nilTest_nat,Option.bind_none]
         · rfl)
      | (split
         · split <;> simp only [chk_bind,nilTest_nat,Option.bind_none]
         · rfl)
      | (split <;> simp only [binK_nat,Option.bind_none]; done)
      | rfl
  | unOp op t x => simp only [pureK]; split <;> simp only [unK_nat,Option.bind_none]
  | convert s d x => simp only [pureK]; split <;> simp only [convK_nat,Option.bind_none]
  | makeInterface t x => simp only [pureK]; (repeat' split) <;> rfl
  | makeFunc f first cap => cases f <;> simp only [pureK,bif_bind,Option.bind_none]
  | slice t x lo hi mx =>
    cases mx with
    | none => simp only [pureK,sliceK_nat]
    | some m =>
      cases hi with
      | none => rfl
      | some y => simp only [pureK]; split <;> simp only [chk_bind,sliceK_nat,Option.bind_none]
  | fieldAddr t x f => simp only [pureK]; split <;> simp only [bif_bind,Option.bind_none]; congr 1; split <;> rfl
  | field t x f => simp only [pureK]; split <;> simp only [bif_bind,Option.bind_none]; congr 1; split <;> simp only [bif_bind,Option.bind_none]; congr 1; split <;> rfl
  | indexAddr t x i => simp only [pureK]; split <;> (try split) <;> simp only [bif_bind,chk_bind,nth_nat,Option.bind_none]
  | index t x i =>
    simp only [pureK]
    split
    · simp only [bif_bind,chk_bind,nthB_nat,Option.bind_none]
    · split
      · simp only [bif_bind,chk_bind,Option.bind_none]; congr 2; split <;> rfl
      · rfl
    · rfl
  | call c =>
    obtain ⟨callee,args,ats⟩:=c
    cases callee with
    | builtin b =>
      cases b <;> simp only [pureK] <;>
        first
        | rfl
        | ((repeat' split) <;> simp only [bif_bind,Option.bind_none,Option.bind_some])
    | _ => rfl
  | _ => rfl
theorem pureK_bind (k:PV → Option R):pureK C op st k = (pureK C op st some).bind k:=by
  rw [pureK_nat]; rfl
end
end Go.PS
end

section
namespace Go.PS
open Go.RowKit
section
variable {P:Program} {C:Ctx} {st st' st1:St} {R:Type} {oper:Oper} {kp:DV → List PObj → Option R} {k:St → Option R} {sy:Sy}
theorem heapCells_nat {S:Type} (h:List PObj) (id:Nat) (f:List PV → Option S) (k:S → Option R):(heapCells h id f).bind k = heapCells h id fun v => (f v).bind k:=by
  unfold heapCells; split <;> rfl
theorem loadCells_nat {S:Type} (T:TyI) (vs:List PV) (f:PV → Option S) (k:S → Option R):(loadCells T vs f).bind k = loadCells T vs fun v => (f v).bind k:=by
  unfold loadCells
  simp only [bif_bind,Option.bind_none]
  congr 2
  · split <;> rfl
  · split <;> simp only [bif_bind,Option.bind_none]
def pickBad (st:St):Op → Bool
  | .pick _ a b => isTup (ev st a) || isTup (ev st b)
  | _ => false
def valV (C:Ctx) (o:Oper) (st:St):Option PV :=
  match o.op with
  | .load t a => (match ev st a with
    | .ptr id off => heapCells st.heap id fun cs => loadCells (C.ty t) (dr cs off) some
    | .ro vs => loadCells (C.ty t) (dCells vs) some
    | _ => none)
  | .call { callee:=.value f,args,.. } => (match (match ev st f with | .func f c => some (f,c) | _ => none) with
    | some (f,c) => (match C.env f with
      | some (.pure s) => (s (bargs c (evs st args.toList))).val
      | _ => none)
    | _ => none)
  | .assign (.const v) => some (ofConstT (C.esz o.type) v)
  | op => bif pickBad st op then none else pureK C op st some
theorem sureV_pop (h:sureV C oper.op = true):popK C sy oper st kp k = (valV C oper st).bind fun v => k (st.put oper.dst v):=by
  obtain ⟨dst,op,ty,pos,after,guard⟩:=oper
  cases op with
  | load t x =>
    simp only [popK,valV]
    cases ev st x <;> simp only [heapCells_nat,loadCells_nat,Option.bind_some,Option.bind_none]
  | call c =>
    obtain ⟨callee,args,ats⟩:=c
    cases callee with
    | builtin b =>
      cases b with
      | len =>
        simp only [popK,valV,pickBad,cond_false]
        rw [pureK_bind]
      | _ => simp [sureV,quiet] at h
    | value f =>
      cases f with
      | func f =>
        simp only [popK,valV,ev]
        simp only [sureV,pureCallee] at h
        split at h
        · rename_i s hs
          rw [hs]
          dsimp only
          rw [Tr.run_eq]
          cases (s (bargs [] (evs st args.toList))).val <;> rfl
        · simp at h
      | _ => simp [sureV,pureCallee] at h
    | _ => simp [sureV,quiet] at h
  | assign x =>
    cases x with
    | const v => rfl
    | _ => simp [sureV,quiet] at h
  | move x =>
    cases x with
    | const v =>
      simp only [popK,valV,pickBad,cond_false]
      rw [pureK_bind]
    | _ => simp [sureV,quiet] at h
  | pick c a b =>
    simp only [popK,valV,pickBad]
    cases (isTup (ev st a) || isTup (ev st b))
    · simp only [cond_false]; rw [pureK_bind]
    · rfl
  | _ =>
    first
    | (simp [sureV,quiet] at h; done)
    | (simp only [popK,valV,pickBad,cond_false]
       rw [pureK_bind])
def Agree (o:Oper) (st st' : St):Prop:=SameOn st st' o.op.operands.toList ∧ ∀ T a id off,o.op = .load T a → ev st a = .ptr id off → st'.heap[id]? = st.heap[id]?
theorem valV_ext (h:Agree oper st st'):valV C oper st' = valV C oper st:=by
  obtain ⟨dst,op,ty,pos,after,guard⟩:=oper
  obtain ⟨h1,h2⟩:=h
  have pp:pickBad st' op = pickBad st op:=by
    cases op <;> simp only [pickBad]
    rename_i c a b
    rw [h1 a (by simp [Op.operands]),h1 b (by simp [Op.operands])]
  cases op with
  | load t x =>
    simp only [valV]
    rw [h1 x (by simp [Op.operands])]
    cases hx:ev st x with
    | ptr id off =>
      dsimp only
      unfold heapCells
      rw [gt_some,gt_some,h2 t x id off rfl hx]
    | _ => rfl
  | call c =>
    obtain ⟨callee,args,ats⟩:=c
    cases callee with
    | value f =>
      simp only [valV]
      have hf:=h1 f (by simp [Op.operands,Call.operands])
      have ha:SameOn st st' args.toList:=fun y hy => h1 y (by simp [Op.operands,Call.operands]; exact .inr (by simpa using hy))
      rw [hf,evs_ext ha]
    | _ => simp only [valV]; rw [pp,pureK_ext h1]
  | assign x =>
    cases x with
    | const v => rfl
    | _ => simp only [valV]; rw [pp,pureK_ext h1]
  | _ => simp only [valV]; rw [pp,pureK_ext h1]
def effE (C:Ctx) (o:Oper) (st:St):Option St:=popK (R:=St) C noSy o st (fun _ _ => none) some
theorem okOp_nat (h:okOp C oper.op = true):popK C sy oper st kp k = (effE C oper st).bind k:=by
  unfold effE
  by_cases hs:sureV C oper.op = true
  · rw [sureV_pop hs,sureV_pop hs]
    cases valV C oper st <;> rfl
  · obtain ⟨dst,op,ty,pos,after,guard⟩:=oper
    cases op with
    | move x =>
      cases x with
      | tmp t =>
        simp only [popK]
        split
        · rename_i vs _; cases calms vs <;> rfl
        · rfl
      | _ => simp [okOp,linV,sureV,quiet] at h hs
    | assign x =>
      cases x with
      | tmp t => simp only [popK]; split <;> rfl
      | _ => simp [okOp,linV,sureV,quiet] at h hs
    | extract x i =>
      cases x with
      | tmp t => simp only [popK]; split <;> (try split) <;> rfl
      | _ => simp [okOp,linV,sureV,quiet] at h hs
    | alloc t => simp only [popK]; cases (C.ty t).zero.isEmpty <;> rfl
    | store t x y =>
      unfold popK
      dsimp only
      split
      · rw [heapCells_nat]
        congr 1
        funext cs
        simp only [bif_bind,Option.bind_none]
        congr 2
        · congr 1
          split
          · split <;> rfl
          · simp only [bif_bind,Option.bind_none,Option.bind_some]
          · simp only [bif_bind,Option.bind_none,Option.bind_some]
        · split
          · simp only [bif_bind,Option.bind_none,Option.bind_some]
          · rfl
      · rfl
    | _ => simp_all [okOp,linV]
end
end Go.PS
end

section
namespace Go.PS
open Go.RowKit
section
variable {P:Program} {C:Ctx} {st st' st1:St} {R:Type} {oper:Oper} {kp:DV → List PObj → Option R} {k:St → Option R} {sy:Sy}
theorem up_comm {α:Type} (l:List α) {i j:Nat} (h:i ≠ j) (x y:α):up (up l i x) j y = up (up l j y) i x:=by
  simp only [up_eq]
  exact List.set_comm _ _ h
theorem tmpsL_mem {t:Nat}:∀ {l:List Operand},.tmp t ∈ l → t ∈ tmpsL l:=by
  intro l
  induction l with
  | nil => intro h; simp at h
  | cons x l ih =>
    intro h
    rcases List.mem_cons.1 h with e | e
    · subst e; simp [tmpsL]
    · cases x <;> simp only [tmpsL,List.mem_cons] <;> first | exact .inr (ih e) | exact ih e
theorem ev_set {d:Nat} {v:PV} {l:List Operand} (hd:d ∉ tmpsL l):SameOn st (st.set d v) l:=by
  intro x hx
  cases x with
  | tmp t =>
    have hne:t ≠ d:=by rintro rfl; exact hd (tmpsL_mem hx)
    simp only [ev,St.set,gt_up]
    rw [if_neg]; rintro ⟨e,_⟩; exact hne e
  | _ => rfl
theorem agree_of {l:List Operand} (h:∀ t ∈ tmpsL l,gt .undef st'.slots t = gt .undef st.slots t):SameOn st st' l:=by
  intro x hx
  cases x with
  | tmp t => exact h t (tmpsL_mem hx)
  | _ => rfl
theorem put_set {d:Nat} {v u:PV} {dst:Option Tmp} (h:dst ≠ some d):(st.set d v).put dst u = (st.put dst u).set d v:=by
  cases dst with
  | none => rfl
  | some t =>
    have:d ≠ t:=by rintro rfl; exact h rfl
    simp only [St.put,St.set]
    rw [up_comm _ this]
theorem set_set {d t:Nat} {v u:PV} (h:t ≠ d):(st.set d v).set t u = (st.set t u).set d v:=by
  simp only [St.set]
  rw [up_comm _ (Ne.symm h)]
theorem gt_set {d t:Nat} {v:PV} (h:t ≠ d):gt PV.undef (st.set d v).slots t = gt .undef st.slots t:=by
  simp only [St.set,gt_up]
  rw [if_neg]; rintro ⟨e,_⟩; exact h e
theorem valV_set {d:Nat} {v:PV} (hd:d ∉ tmpsL oper.op.operands.toList):valV C oper (st.set d v) = valV C oper st :=
  valV_ext ⟨ev_set hd,fun _ _ _ _ _ _ => rfl⟩
theorem effE_frame (h:okOp C oper.op = true) {d:Nat} {v:PV} (hd:d ∉ tmpsL oper.op.operands.toList) (hdst:oper.dst ≠ some d):effE C oper (st.set d v) = (effE C oper st).map fun s => s.set d v:=by
  by_cases hs:sureV C oper.op = true
  · unfold effE
    rw [sureV_pop hs,sureV_pop hs,valV_set hd]
    cases valV C oper st with
    | none => rfl
    | some u => simp only [Option.bind_some,Option.map_some]; rw [put_set hdst]
  · obtain ⟨dst,op,ty,pos,after,guard⟩:=oper
    have hdst:dst ≠ some d:=hdst
    cases op with
    | move x =>
      cases x with
      | tmp t =>
        have hne:t ≠ d:=by rintro rfl; exact hd (by simp [Op.operands,tmpsL])
        simp only [effE,popK,gt_set hne]
        split
        · rename_i vs _
          cases calms vs with
          | true => simp only [cond_true,Option.map_some]; rw [put_set hdst]
          | false => simp only [cond_false,Option.map_some]; rw [set_set hne,put_set hdst]
        · simp only [Option.map_some]; rw [put_set hdst]
      | _ => simp [okOp,linV,sureV,quiet] at h hs
    | assign x =>
      cases x with
      | tmp t =>
        have hne:t ≠ d:=by rintro rfl; exact hd (by simp [Op.operands,tmpsL])
        simp only [effE,popK,gt_set hne]
        split
        · simp only [Option.map_some]; rw [set_set hne,put_set hdst]
        · rfl
        · simp only [Option.map_some]; rw [put_set hdst]
      | _ => simp [okOp,linV,sureV,quiet] at h hs
    | extract x i =>
      cases x with
      | tmp t =>
        have hne:t ≠ d:=by rintro rfl; exact hd (by simp [Op.operands,tmpsL])
        simp only [effE,popK,gt_set hne]
        split
        · split
          · simp only [Option.map_some]; rw [set_set hne,put_set hdst]
          · rfl
          · rfl
          · simp only [Option.map_some]; rw [put_set hdst]
        · rfl
      | _ => simp [okOp,linV,sureV,quiet] at h hs
    | alloc t =>
      simp only [effE,popK]
      cases (C.ty t).zero.isEmpty
      · simp only [cond_false,Option.map_some]
        have:=put_set (st:=⟨st.slots,st.heap ++ [.cells (toCells (C.ty t).zero)]⟩) (v:=v) (u:=.ptr st.heap.length 0) hdst
        rw [← this]; rfl
      · rfl
    | store t x y =>
      have hx:=ev_set (st:=st) (v:=v) hd x (by simp [Op.operands])
      have hy:=ev_set (st:=st) (v:=v) hd y (by simp [Op.operands])
      have pp:∀ (s:St) (u:PV),(s.set d v).put dst u = (s.put dst u).set d v:=fun s u => put_set hdst
      unfold effE popK
      dsimp only
      rw [hx]
      split
      · unfold heapCells
        have:(st.set d v).heap = st.heap:=rfl
        rw [this]
        split
        · rename_i cs _
          rw [hy]
          cases Nat.beq (C.ty t).size 0
          · simp only [cond_false]
            cases isScalar (C.ty t).ty
            · simp only [cond_false]
              split
              · cases (Nat.beq _ (C.ty t).size && _)
                · rfl
                · simp only [cond_true,Option.map_some]
                  rw [← pp]; rfl
              · rfl
            · simp only [cond_true]
              cases (Nat.beq (C.ty t).size 1 && _)
              · rfl
              · simp only [cond_true]
                split
                · split
                  · rename_i u _
                    have hne:u ≠ d:=by rintro rfl; exact hd (by cases x <;> simp [Op.operands,tmpsL])
                    simp only [Option.map_some]
                    rw [← pp]
                    simp only [St.set]
                    rw [up_comm _ (Ne.symm hne)]
                  · simp only [Option.map_some]; rw [← pp]; rfl
                · cases DV.scalar _
                  · rfl
                  · simp only [cond_true,Option.map_some]; rw [← pp]; rfl
                · cases PV.cellOk _
                  · rfl
                  · simp only [cond_true,Option.map_some]; rw [← pp]; rfl
          · rfl
        · rfl
      · rfl
    | _ => simp_all [okOp,linV]
end
end Go.PS
end

section
namespace Go.PS
open Go.RowKit
section
variable {P:Program} {C:Ctx} {st st' st1:St} {R:Type} {oper:Oper} {kp:DV → List PObj → Option R} {k:St → Option R} {sy:Sy}
structure Chg (o:Oper) (st st1:St):Prop where
  len:st1.slots.length = st.slots.length
  slot:∀ t,o.dst ≠ some t → (t ∈ linS o.op → calm (gt .undef st.slots t) = true) → gt PV.undef st1.slots t = gt .undef st.slots t
  hlen:st.heap.length ≤ st1.heap.length
  heap:(∀ (id:Nat) ob,st.heap[id]? = some ob → st1.heap[id]? = some ob) ∨ ∃ (T:TypeId) (x y:Operand) (id off:Nat),o.op = .store T x y ∧ ev st x = .ptr id off ∧ ∀ id' : Nat,id' ≠ id → st1.heap[id']? = st.heap[id']?
  hleq:(∀ T,o.op ≠ .alloc T) → st1.heap.length = st.heap.length
theorem put_len (dst:Option Tmp) (v:PV):(st.put dst v).slots.length = st.slots.length:=by
  cases dst <;> simp [St.put,St.set]
theorem gt_put {dst:Option Tmp} {v:PV} {t:Nat} (h:dst ≠ some t):gt PV.undef (st.put dst v).slots t = gt .undef st.slots t:=by
  cases dst with
  | none => rfl
  | some d => exact gt_set (by rintro rfl; exact h rfl)
theorem put_heap (dst:Option Tmp) (v:PV):(st.put dst v).heap = st.heap:=by cases dst <;> rfl
theorem Chg.put (v:PV):Chg oper st (st.put oper.dst v) :=
  ⟨put_len _ _,fun _ h _ => gt_put h,by rw [put_heap]; exact Nat.le_refl _,.inl fun id ob h => by rw [put_heap]; exact h,fun _ => by rw [put_heap]⟩
theorem Chg.setPut {t:Nat} {u v:PV} (hl:t ∈ linS oper.op) (hc:calm (gt .undef st.slots t) = false):Chg oper st ((st.set t u).put oper.dst v):=by
  refine ⟨by rw [put_len]; simp [St.set],fun s h1 h2 => ?_,by rw [put_heap]; exact Nat.le_refl _,.inl fun id ob h => by rw [put_heap]; exact h,fun _ => by rw [put_heap]; rfl⟩
  rw [gt_put h1]
  have:s ≠ t:=by rintro rfl; rw [hc] at h2; exact absurd (h2 hl) (by simp)
  exact gt_set this
theorem effE_chg (h:okOp C oper.op = true) (he:effE C oper st = some st1):Chg oper st st1:=by
  by_cases hs:sureV C oper.op = true
  · unfold effE at he
    rw [sureV_pop hs] at he
    cases hv:valV C oper st with
    | none => rw [hv] at he; simp at he
    | some v => rw [hv] at he; simp at he; subst he; exact .put v
  · obtain ⟨dst,op,ty,pos,after,guard⟩:=oper
    cases op with
    | move x =>
      cases x with
      | tmp t =>
        simp only [effE,popK] at he
        split at he
        · rename_i vs hv
          cases hcm:calms vs with
          | true => rw [hcm] at he; simp at he; subst he; exact Chg.put (oper:=⟨dst,.move (.tmp t),ty,pos,after,guard⟩) _
          | false =>
            rw [hcm] at he
            simp at he; subst he
            exact Chg.setPut (oper:=⟨dst,.move (.tmp t),ty,pos,after,guard⟩) (by simp [linS]) (by rw [hv]; exact hcm)
        · simp at he; subst he; exact Chg.put (oper:=⟨dst,.move (.tmp t),ty,pos,after,guard⟩) _
      | _ => simp [okOp,linV,sureV,quiet] at h hs
    | assign x =>
      cases x with
      | tmp t =>
        simp only [effE,popK] at he
        split at he
        · rename_i sz vs hv
          simp at he; subst he
          exact Chg.setPut (oper:=⟨dst,.assign (.tmp t),ty,pos,after,guard⟩) (by simp [linS]) (by rw [hv]; rfl)
        · simp at he
        · simp at he; subst he; exact Chg.put (oper:=⟨dst,.assign (.tmp t),ty,pos,after,guard⟩) _
      | _ => simp [okOp,linV,sureV,quiet] at h hs
    | extract x i =>
      cases x with
      | tmp t =>
        simp only [effE,popK] at he
        split at he
        · rename_i vs hv
          split at he
          · simp at he; subst he
            rename_i sz es hes
            refine Chg.setPut (oper:=⟨dst,.extract (.tmp t) i,ty,pos,after,guard⟩) (by simp [linS]) ?_
            rw [hv]
            cases hcm:calms vs with
            | false => exact hcm
            | true => have:=calms_cmp hcm i; rw [hes] at this; exact this.elim
          · simp at he
          · simp at he
          · simp at he; subst he; exact Chg.put (oper:=⟨dst,.extract (.tmp t) i,ty,pos,after,guard⟩) _
        · simp at he
      | _ => simp [okOp,linV,sureV,quiet] at h hs
    | alloc t =>
      simp only [effE,popK] at he
      rw [bif_none_some] at he
      obtain ⟨_,he⟩:=he
      simp at he; subst he
      refine ⟨by rw [put_len],fun s h1 _ => by rw [gt_put h1],by rw [put_heap]; simp,.inl fun id ob h => ?_,fun h => absurd rfl (h t)⟩
      rw [put_heap]
      have:=(List.getElem?_eq_some_iff.1 h).1
      show (st.heap ++ _)[id]? = _
      rw [List.getElem?_append_left this]; exact h
    | store t x y =>
      simp only [effE] at he
      unfold popK at he
      dsimp only at he
      split at he
      · rename_i id off hx
        obtain ⟨cs,hid,he⟩:=heapCells_inv he
        have fin:∀ {sl:List PV} {ob:PObj},sl.length = st.slots.length → (∀ s,(s ∈ linS (.store t x y) → calm (gt .undef st.slots s) = true) → gt PV.undef sl s = gt .undef st.slots s) →
            some (St.put ⟨sl,up st.heap id ob⟩ dst .undef) = some st1 → Chg ⟨dst,.store t x y,ty,pos,after,guard⟩ st st1:=by
          intro sl ob h1 h2 h3
          simp at h3; subst h3
          refine ⟨by rw [put_len]; exact h1,fun s k1 k2 => by rw [gt_put k1]; exact h2 s k2,by rw [put_heap]; simp,.inr ⟨t,x,y,id,off,rfl,hx,fun id' hne => ?_⟩,fun _ => by rw [put_heap]; simp⟩
          rw [put_heap,up_eq]
          exact List.getElem?_set_ne (Ne.symm hne)
        rw [bif_none_some] at he
        obtain ⟨_,he⟩:=he
        cases hsc:isScalar (C.ty t).ty
        · rw [hsc] at he
          simp only [cond_false] at he
          split at he
          · rw [bif_some] at he
            exact fin rfl (fun _ _ => rfl) he.2
          · simp at he
        · rw [hsc] at he
          simp only [cond_true] at he
          rw [bif_some] at he
          obtain ⟨_,he⟩:=he
          split at he
          · rename_i sz vs hy
            split at he
            · rename_i u _
              refine fin (by simp) (fun s hs => ?_) he
              have:s ≠ u:=by
                rintro rfl
                have hy:gt PV.undef st.slots s = .own sz vs:=by assumption
                have:=hs (by simp [linS])
                rw [hy] at this; simp [calm] at this
              have:=gt_set (st:=st) (v:=.d (.slc sz vs)) this
              exact this
            · exact fin rfl (fun _ _ => rfl) he
          · rw [bif_some] at he; exact fin rfl (fun _ _ => rfl) he.2
          · rw [bif_some] at he; exact fin rfl (fun _ _ => rfl) he.2
      · simp at he
    | _ => simp_all [okOp,linV]
def Holds (o:Oper) (st st' : St):Prop:=∀ T a id off,o.op = .load T a → ev st a = .ptr id off → ∀ ob:PObj,st.heap[id]? = some ob → st'.heap[id]? = some ob
theorem valV_ext' {v:PV} (hv:valV C oper st = some v) (h1:SameOn st st' oper.op.operands.toList) (h2:Holds oper st st'):valV C oper st' = some v:=by
  rw [← hv]
  refine valV_ext ⟨h1,fun T a id off e1 e2 => ?_⟩
  have:∃ ob:PObj,st.heap[id]? = some ob:=by
    unfold valV at hv
    rw [e1] at hv
    simp only [e2] at hv
    obtain ⟨cs,h,_⟩:=heapCells_inv hv
    exact ⟨_,h⟩
  obtain ⟨ob,hob⟩:=this
  rw [hob]; exact h2 T a id off e1 e2 ob hob
theorem effE_val (h:sureV C oper.op = true ∨ (linV oper.op = true ∧ calmI oper.op st = true)) (he:effE C oper st = some st1) :
    ∃ v,st1 = st.put oper.dst v ∧ ∀ st',SameOn st st' oper.op.operands.toList → Holds oper st st' → effE C oper st' = some (st'.put oper.dst v):=by
  rcases h with hs | ⟨h,hc⟩
  · unfold effE at he ⊢
    rw [sureV_pop hs] at he
    cases hv:valV C oper st with
    | none => rw [hv] at he; simp at he
    | some v =>
      rw [hv] at he; simp at he; subst he
      refine ⟨v,rfl,fun st' ha hh => ?_⟩
      rw [sureV_pop hs,valV_ext' hv ha hh]; rfl
  · obtain ⟨dst,op,ty,pos,after,guard⟩:=oper
    cases op with
    | move x =>
      cases x with
      | tmp t =>
        simp only [effE,popK] at he ⊢
        simp only [calmI] at hc
        split at he
        · rename_i vs hv; rw [hv] at hc; simp [isTup] at hc
        · rename_i v hv
          simp at he; subst he
          refine ⟨_,rfl,fun st' ha _ => ?_⟩
          have:=ha (.tmp t) (by simp [Op.operands])
          simp only [ev] at this
          rw [this]
          split
          · rename_i vs hv'; exact absurd hv' (hv vs)
          · rfl
      | _ => simp [linV] at h
    | assign x =>
      cases x with
      | tmp t =>
        simp only [effE,popK] at he ⊢
        simp only [calmI] at hc
        split at he
        · rename_i sz vs hv; rw [hv] at hc; simp [calm] at hc
        · simp at he
        · rename_i v hv1 hv2
          simp at he; subst he
          refine ⟨_,rfl,fun st' ha _ => ?_⟩
          have:=ha (.tmp t) (by simp [Op.operands])
          simp only [ev] at this
          rw [this]
          split
          · rename_i sz vs hv'; exact absurd hv' (hv1 sz vs)
          · rename_i vs hv'; exact absurd hv' (hv2 vs)
          · rfl
      | _ => simp [linV] at h
    | extract x i =>
      cases x with
      | tmp t =>
        simp only [effE,popK] at he ⊢
        simp only [calmI] at hc
        split at he
        · rename_i vs hv
          rw [hv] at hc
          dsimp only at hc
          split at he
          · rename_i sz es hg; rw [hg] at hc; simp [calm] at hc
          · simp at he
          · simp at he
          · rename_i v h1 h2 h3
            simp at he; subst he
            refine ⟨_,rfl,fun st' ha _ => ?_⟩
            have:=ha (.tmp t) (by simp [Op.operands])
            simp only [ev] at this
            rw [this,hv]
            dsimp only
            split
            · rename_i sz es hg; exact absurd hg (h1 sz es)
            · rename_i us hg; exact absurd hg (h2 us)
            · rename_i hg; exact absurd hg h3
            · rfl
        · simp at he
      | _ => simp [linV] at h
    | _ => simp [linV] at h
end
end Go.PS
end

section
namespace Go.PS
open Go.RowKit
section
variable {P:Program} {C:Ctx} {ops:List Oper} {st st' st1:St} {R:Type} {o i b:Oper} {kp:DV → List PObj → Option R} {k:St → Option R} {sy:Sy} {app:Bool}
def gd (ops:List Oper) (o:Oper) (st:St):Option Bool :=
  match o.guard with
  | none => some true
  | some (j,want) => match gt none (ops.map some) j with
    | some g => (match g.dst with
      | some t => (match gt .undef st.slots t with
        | .d (.bool b) => some (b == want)
        | .skp => some false
        | _ => none)
      | none => none)
    | none => none
theorem set_same {t:Nat} {v:PV} (h:gt .undef st.slots t = v):st.set t v = st:=by
  obtain ⟨sl,H⟩:=st
  simp only [St.set,St.mk.injEq,and_true]
  rw [up_eq]
  rw [gt_eq] at h
  apply List.ext_getElem?
  intro n
  rw [List.getElem?_set]
  split
  · subst_vars
    split
    · rename_i hl; rw [List.getElem?_eq_getElem hl]; simp
    · rename_i hl; rw [List.getElem?_eq_none (Nat.le_of_not_lt hl)]
  · rfl
theorem guarded_gd (y n:St → Option R):guarded ops o st y n = match gd ops o st with | some true => y st | some false => n st | none => none:=by
  unfold guarded gd
  cases o.guard with
  | none => rfl
  | some jw =>
    obtain ⟨j,want⟩:=jw
    dsimp only
    cases gt none (ops.map some) j with
    | none => rfl
    | some g =>
      dsimp only
      cases g.dst with
      | none => rfl
      | some t =>
        dsimp only
        cases hg:gt PV.undef st.slots t with
        | d v =>
          cases v with
          | bool c =>
            dsimp only
            cases want <;> cases c <;> simp [cnd,set_same hg]
          | _ => rfl
        | _ => rfl
theorem gd_same (h:∀ t ∈ guardT ops o,gt PV.undef st'.slots t = gt .undef st.slots t):gd ops o st' = gd ops o st:=by
  unfold gd
  cases hg:o.guard with
  | none => rfl
  | some jw =>
    obtain ⟨j,want⟩:=jw
    dsimp only
    cases hj:gt none (ops.map some) j with
    | none => rfl
    | some g =>
      dsimp only
      cases ht:g.dst with
      | none => rfl
      | some t =>
        dsimp only
        rw [h t (by simp [guardT,hg,hj,ht])]
def exec (C:Ctx) (ops:List Oper) (o:Oper) (st:St):Option (Bool × St) :=
  match gd ops o st with
  | some true => (effE C o st).map (Prod.mk true)
  | some false => some (false,st.put o.dst .skp)
  | none => none
def updS (C:Ctx) (app:Bool) (o:Oper) (ran:Bool) (st:St) (sy:Sy):Sy:=bif app then (bif ran then syncs C o st sy else dropO o.dst sy) else sy
theorem stepK_exec (h:okOp C o.op = true) (K:Sy → St → Option R):stepK C ops app kp o sy st K = (exec C ops o st).bind fun p => K (updS C app o p.1 st sy) p.2:=by
  unfold stepK exec
  rw [guarded_gd]
  cases gd ops o st with
  | none => rfl
  | some g =>
    cases g with
    | true =>
      dsimp only
      rw [okOp_nat h]
      cases effE C o st with
      | none => rfl
      | some s => cases app <;> rfl
    | false => cases app <;> rfl
theorem exec_frame (h:okOp C o.op = true) {d:Nat} {v:PV} (hd:d ∉ rdS ops o) (hdst:o.dst ≠ some d):exec C ops o (st.set d v) = (exec C ops o st).map fun p => (p.1,p.2.set d v):=by
  have hd1:d ∉ tmpsL o.op.operands.toList:=fun h => hd (by simp [rdS,h])
  have hd2:d ∉ guardT ops o:=fun h => hd (by simp [rdS,h])
  unfold exec
  rw [gd_same (st:=st) (st':=st.set d v) (fun t ht => gt_set (by rintro rfl; exact hd2 ht))]
  cases gd ops o st with
  | none => rfl
  | some g =>
    cases g with
    | true =>
      dsimp only
      rw [effE_frame h hd1 hdst]
      cases effE C o st <;> rfl
    | false =>
      dsimp only
      rw [put_set hdst]; rfl
theorem exec_frameO (h:okOp C o.op = true) {d:Option Tmp} {v:PV} (hd:isDstOf d (rdS ops o) = false) (hdst:sameDst d o.dst = false):exec C ops o (st.put d v) = (exec C ops o st).map fun p => (p.1,p.2.put d v):=by
  cases d with
  | none =>
    show exec C ops o st = _
    cases exec C ops o st <;> rfl
  | some d =>
    refine exec_frame h ?_ ?_
    · intro hm
      have:∀ l:List Nat,d ∈ l → memN d l = true:=by
        intro l
        induction l with
        | nil => intro h; simp at h
        | cons u l ih =>
          intro hm
          simp only [memN,Bool.or_eq_true]
          rcases List.mem_cons.1 hm with e | e
          · subst e; exact .inl (by simp)
          · exact .inr (ih e)
      simp only [isDstOf] at hd
      rw [this _ hm] at hd; simp at hd
    · intro e
      rw [e] at hdst; simp [sameDst] at hdst
theorem exec_chg (h:okOp C o.op = true) {p:Bool × St} (he:exec C ops o st = some p):Chg o st p.2:=by
  unfold exec at he
  split at he
  · cases hf:effE C o st with
    | none => rw [hf] at he; simp at he
    | some s => rw [hf] at he; simp at he; subst he; exact effE_chg h hf
  · simp at he; subst he; exact .put _
  · simp at he
theorem exec_val (h:sureV C o.op = true ∨ (linV o.op = true ∧ calmI o.op st = true)) {p:Bool × St} (he:exec C ops o st = some p) :
    ∃ v,p.2 = st.put o.dst v ∧ ∀ st',(∀ t ∈ rdS ops o,gt PV.undef st'.slots t = gt .undef st.slots t) → Holds o st st' → exec C ops o st' = some (p.1,st'.put o.dst v):=by
  have hgd:∀ st' : St,(∀ t ∈ rdS ops o,gt PV.undef st'.slots t = gt .undef st.slots t) → gd ops o st' = gd ops o st:=fun st' hs => gd_same fun t ht => hs t (by simp [rdS,ht])
  unfold exec at he
  split at he
  · rename_i hg
    cases hf:effE C o st with
    | none => rw [hf] at he; simp at he
    | some s =>
      rw [hf] at he; simp at he; subst he
      obtain ⟨v,h1,h2⟩:=effE_val h hf
      refine ⟨v,h1,fun st' hs hl => ?_⟩
      unfold exec
      rw [hgd st' hs,hg]
      dsimp only
      rw [h2 st' (agree_of fun t ht => hs t (by simp [rdS,ht])) hl]
      rfl
  · rename_i hg
    simp at he; subst he
    refine ⟨.skp,rfl,fun st' hs _ => ?_⟩
    unfold exec
    rw [hgd st' hs,hg]
  · simp at he
theorem put_put_comm {a c:Option Tmp} {u v:PV} (h:sameDst a c = false):(st.put a u).put c v = (st.put c v).put a u:=by
  cases a with
  | none => rfl
  | some a =>
    cases c with
    | none => rfl
    | some c =>
      have:c ≠ a:=by rintro rfl; simp [sameDst] at h
      exact put_set (dst:=some c) (by simpa using this)
theorem keep_keep (g:Org) (a c:Nat):(g.keep a).keep c = (g.keep c).keep a:=by
  unfold Org.keep
  cases h1:g.uses a <;> cases h2:g.uses c <;> simp only [h1,h2,cond_true,cond_false] <;> first | rfl | (show (bif false then _ else _) = _; rfl)
theorem addS_comm {d e:Nat} {g f:Org} (hne:d ≠ e) (h1:g.uses e = false) (h2:f.uses d = false):addS d g (addS e f sy) = addS e f (addS d g sy):=by
  funext u
  unfold addS
  have k1:g.keep e = g:=by simp [Org.keep,h1]
  have k2:f.keep d = f:=by simp [Org.keep,h2]
  cases hu:Nat.beq u d
  · cases hv:Nat.beq u e
    · simp only [cond_false]; rw [keep_keep]
    · simp only [cond_false,cond_true]; exact k2
  · have:=Nat.eq_of_beq_eq_true hu; subst this
    have hv:Nat.beq u e = false:=by
      cases hb:Nat.beq u e
      · rfl
      · exact absurd (Nat.eq_of_beq_eq_true hb) hne
    rw [hv]
    simp only [cond_false,cond_true]; exact k1.symm
def addO (t:Option Tmp) (g:Org) (sy:Sy):Sy :=
  match t with
  | some t => addS t g sy
  | none => sy
theorem addO_comm {d e:Option Tmp} {g f:Org} (hne:sameDst d e = false) (h1:∀ t,e = some t → g.uses t = false) (h2:∀ t,d = some t → f.uses t = false):addO d g (addO e f sy) = addO e f (addO d g sy):=by
  cases d with
  | none => rfl
  | some d =>
    cases e with
    | none => rfl
    | some e => exact addS_comm (by rintro rfl; simp [sameDst] at hne) (h1 e rfl) (h2 d rfl)
theorem keepS_syncs (h:keepS C o.op = true) (ran:Bool):∃ g:Org,(∀ d,d ∉ tmpsL o.op.operands.toList → g.uses d = false) ∧ (∀ d,o.dst = some d → g.uses d = false) ∧ (∀ a,g = .cell a → ran = true ∧ ∃ T,o.op = .load T (.tmp a)) ∧ ∀ st sy,updS C true o ran st sy = addO o.dst g sy:=by
  have hself:∀ sy,dropO o.dst sy = addO o.dst .self sy:=by intro sy; cases o.dst <;> rfl
  cases ran with
  | false => exact ⟨.self,fun _ _ => rfl,fun _ _ => rfl,(fun _ h => by cases h),fun _ sy => hself sy⟩
  | true =>
    obtain ⟨dst,op,ty,pos,after,guard⟩:=o
    have quietCase:quiet op = true → ∃ g:Org,(∀ d,d ∉ tmpsL op.operands.toList → g.uses d = false) ∧ (∀ d,dst = some d → g.uses d = false) ∧ (∀ a,g = .cell a → true = true ∧ ∃ T,op = .load T (.tmp a)) ∧ ∀ st sy,updS C true ⟨dst,op,ty,pos,after,guard⟩ true st sy = addO dst g sy:=by
      intro hq
      refine ⟨.self,fun _ _ => rfl,fun _ _ => rfl,(fun _ h => by cases h),fun st sy => ?_⟩
      have:syncs C ⟨dst,op,ty,pos,after,guard⟩ st sy = dropO dst sy:=by
        unfold syncs
        cases op
        case call c =>
          obtain ⟨callee,args,ats⟩:=c
          cases callee with
          | builtin b => cases b <;> first | rfl | cases hq
          | _ => cases hq
        all_goals (simp [quiet] at hq <;> rfl)
      show syncs C _ st sy = _
      rw [this]; exact hself sy
    cases op with
    | move x =>
      cases x with
      | tmp v =>
        cases dst with
        | none => exact ⟨.self,fun _ _ => rfl,fun _ _ => rfl,(fun _ h => by cases h),fun st sy => rfl⟩
        | some t =>
          cases hb:Nat.beq t v
          · refine ⟨.slot v,fun d hd => ?_,fun d hd => ?_,(fun _ h => by cases h),fun st sy => ?_⟩
            · cases hv:Org.uses d (.slot v)
              · rfl
              · have:=Nat.eq_of_beq_eq_true hv; subst this
                exact absurd (by simp [Op.operands,tmpsL]) hd
            · simp at hd; subst hd
              show Nat.beq v t = false
              cases hv:Nat.beq v t
              · rfl
              · rw [Nat.eq_of_beq_eq_true hv] at hb; simp at hb
            · simp [updS,syncs,hb,addO]
          · exact ⟨.self,fun _ _ => rfl,fun _ _ => rfl,(fun _ h => by cases h),fun st sy => by simp [updS,syncs,hb,addO]; rfl⟩
      | _ => simp [keepS,quiet] at h
    | load T x =>
      cases x with
      | tmp v =>
        cases dst with
        | none => exact ⟨.self,fun _ _ => rfl,fun _ _ => rfl,(fun _ h => by cases h),fun st sy => rfl⟩
        | some t =>
          cases hb:(Nat.beq t v || !isScalar (C.ty T).ty)
          · refine ⟨.cell v,fun d hd => ?_,fun d hd => ?_,fun a ha => ?_,fun st sy => ?_⟩
            · cases hv:Org.uses d (.cell v)
              · rfl
              · have:=Nat.eq_of_beq_eq_true hv; subst this
                exact absurd (by simp [Op.operands,tmpsL]) hd
            · simp at hd; subst hd
              show Nat.beq v t = false
              cases hv:Nat.beq v t
              · rfl
              · rw [Nat.eq_of_beq_eq_true hv] at hb; simp at hb
            · simp at ha; subst ha; exact ⟨rfl,T,rfl⟩
            · simp only [updS,cond_true,syncs,hb]; rfl
          · refine ⟨.self,fun _ _ => rfl,fun _ _ => rfl,(fun _ h => by cases h),fun st sy => ?_⟩
            simp only [updS,cond_true,syncs,hb]; rfl
      | _ => simp [keepS,quiet] at h
    | call c =>
      obtain ⟨callee,args,ats⟩:=c
      cases callee with
      | value f =>
        refine ⟨.self,fun _ _ => rfl,fun _ _ => rfl,(fun _ h => by cases h),fun st sy => ?_⟩
        simp only [keepS] at h
        simp only [updS,cond_true,syncs,h]; exact hself sy
      | builtin b => exact quietCase h
      | _ => simp [keepS,quiet] at h
    | _ => exact quietCase h
end
end Go.PS
end

section
namespace Go.PS
open Go.RowKit
section
variable {P:Program} {C:Ctx} {ops:List Oper} {st st' st1:St} {R:Type} {o i b c:Oper} {kp:DV → List PObj → Option R} {k:St → Option R} {sy:Sy} {app:Bool}
theorem memN_mem {t:Nat}:∀ {l:List Nat},memN t l = true ↔ t ∈ l:=by
  intro l
  induction l with
  | nil => simp [memN]
  | cons u l ih =>
    simp only [memN,Bool.or_eq_true,List.mem_cons,ih]
    constructor
    · rintro (h | h)
      · exact .inl (Nat.eq_of_beq_eq_true h).symm
      · exact .inr h
    · rintro (h | h)
      · subst h; exact .inl (by simp)
      · exact .inr h
theorem isDstOf_false {d:Option Tmp} {l:List Nat} (h:isDstOf d l = false):∀ t ∈ l,d ≠ some t:=by
  rintro t ht rfl
  simp only [isDstOf] at h
  rw [memN_mem.2 ht] at h; simp at h
theorem calmAll_spec {rd:List Nat}:∀ {l:List Nat},calmAll st rd l = true ↔ ∀ t ∈ l,t ∈ rd → calm (gt .undef st.slots t) = true:=by
  intro l
  induction l with
  | nil => simp [calmAll]
  | cons u l ih =>
    simp only [calmAll,Bool.and_eq_true,ih,Bool.or_eq_true,Bool.not_eq_true',List.mem_cons,forall_eq_or_imp]
    constructor
    · rintro ⟨h1,h2⟩
      refine ⟨fun hu => ?_,h2⟩
      rcases h1 with h1 | h1
      · rw [memN_mem.2 hu] at h1; simp at h1
      · exact h1
    · rintro ⟨h1,h2⟩
      refine ⟨?_,h2⟩
      cases hm:memN u rd
      · exact .inl rfl
      · exact .inr (h1 (memN_mem.1 hm))
theorem linS_rd {t:Nat} (h:t ∈ linS o.op):t ∈ rdS ops o:=by
  have:t ∈ tmpsL o.op.operands.toList:=by
    obtain ⟨dst,op,ty,pos,after,guard⟩:=o
    cases op with
    | move x => cases x <;> simp [linS] at h; subst h; simp [Op.operands,tmpsL]
    | assign x => cases x <;> simp [linS] at h; subst h; simp [Op.operands,tmpsL]
    | extract x i => cases x <;> simp [linS] at h; subst h; simp [Op.operands,tmpsL]
    | store T x y =>
      cases y <;> simp [linS] at h
      subst h
      cases x <;> simp [Op.operands,tmpsL]
    | _ => simp [linS] at h
  simp [rdS,this]
theorem sameDst_symm {a c:Option Tmp} (h:sameDst a c = false):sameDst c a = false:=by
  cases a <;> cases c <;> simp only [sameDst] at h ⊢
  rename_i x y
  cases hb:Nat.beq y x
  · rfl
  · have:=Nat.eq_of_beq_eq_true hb
    subst this; simp at h
theorem isDst_mem {d:Nat}:∀ {l:List Oper},isDst d l = false → ∀ x ∈ l,x.dst ≠ some d:=by
  intro l
  induction l with
  | nil => intro _ x hx; simp at hx
  | cons y l ih =>
    intro h x hx
    simp only [isDst,Bool.or_eq_false_iff] at h
    rcases List.mem_cons.1 hx with rfl | hx
    · intro e
      rw [e] at h; simp at h
    · exact ih h.2 x hx
structure SwapS (ops:List Oper) (i b:Oper):Prop where
  d1:isDstOf i.dst (rdS ops b) = false
  d2:sameDst i.dst b.dst = false
  d3:isDstOf b.dst (rdS ops i) = false
theorem sureV_lin {op:Op} (h:sureV C op = true):linS op = []:=by
  cases op with
  | move x => cases x <;> first | rfl | (simp [sureV,quiet] at h)
  | assign x => cases x <;> first | rfl | (simp [sureV,quiet] at h)
  | extract x i => simp [sureV,quiet] at h
  | store T x y => simp [sureV,quiet] at h
  | _ => rfl
def condA (C:Ctx) (ops:List Oper) (i b:Oper) (st:St):Bool :=
  match b.op with
  | .alloc _ => true
  | .store _ y _ => (match i.op with
    | .load _ x => (match ev st x with | .ptr id _ => apartB ops st id y | .ro _ => true | _ => false)
    | _ => true)
  | op => sureV C op || linV op
def condB (ops:List Oper) (i b:Oper) (st:St):Bool :=
  match i.op with
  | .store _ x _ => (match ev st x with
    | .ptr id _ => (match b.op with | .load _ y => apartB ops st id y | _ => true)
    | _ => false)
  | .alloc _ => (match b.op with | .load _ y => belowB ops st y | _ => true)
  | _ => false
theorem swapB_iff:swapB C ops app i b st = true ↔ (SwapS ops i b ∧ (app = true → keepS C i.op = true ∧ keepS C b.op = true)) ∧
    (((sureV C i.op = true ∨ linV i.op = true) ∧ calmI i.op st = true ∧ calmAll st (rdS ops i) (linS b.op) = true ∧ condA C ops i b st = true) ∨
     (sureV C b.op = true ∧ calmAll st (rdS ops b) (linS i.op) = true ∧ condB ops i b st = true)):=by
  unfold swapB
  show ((_ && _) && ((_ && condA C ops i b st) || (_ && condB ops i b st))) = true ↔ _
  simp only [Bool.and_eq_true,Bool.or_eq_true,Bool.not_eq_true']
  constructor
  · rintro ⟨⟨⟨⟨h1,h2⟩,h3⟩,h4⟩,h5⟩
    refine ⟨⟨⟨h1,h2,h3⟩,fun ha => ?_⟩,?_⟩
    · rcases h4 with h4 | h4
      · rw [ha] at h4; simp at h4
      · exact h4
    · rcases h5 with ⟨⟨⟨k1,k2⟩,k3⟩,k4⟩ | ⟨⟨k1,k2⟩,k3⟩
      · exact .inl ⟨k1,k2,k3,k4⟩
      · exact .inr ⟨k1,k2,k3⟩
  · rintro ⟨⟨⟨h1,h2,h3⟩,h4⟩,h5⟩
    refine ⟨⟨⟨⟨h1,h2⟩,h3⟩,?_⟩,?_⟩
    · cases app
      · exact .inl rfl
      · exact .inr (h4 rfl)
    · rcases h5 with ⟨k1,k2,k3,k4⟩ | ⟨k1,k2,k3⟩
      · exact .inl ⟨⟨⟨k1,k2⟩,k3⟩,k4⟩
      · exact .inr ⟨⟨k1,k2⟩,k3⟩
theorem condA_ok (h:condA C ops i b st = true):okOp C b.op = true:=by
  obtain ⟨dst,op,ty,pos,after,guard⟩:=b
  unfold condA at h
  cases op <;> dsimp only at h <;> unfold okOp <;> first
    | (simp only [Bool.or_true]; done)
    | (rw [h]; rfl)
theorem condB_ok (h:condB ops i b st = true):okOp C i.op = true ∧ ((∃ T x y,i.op = .store T x y) ∨ ∃ T,i.op = .alloc T):=by
  obtain ⟨dst,op,ty,pos,after,guard⟩:=i
  unfold condB at h
  cases op <;> first | (simp at h; done) | skip
  · exact ⟨by simp [okOp],.inr ⟨_,rfl⟩⟩
  · exact ⟨by simp [okOp],.inl ⟨_,_,_,rfl⟩⟩
theorem okV (h:sureV C i.op = true ∨ linV i.op = true):okOp C i.op = true:=by
  unfold okOp
  rcases h with h | h <;> simp [h]
theorem apartB_spec {id:Nat} {x:Operand} (h:apartB ops st id x = true):∃ s,x = .tmp s ∧ isDst s ops = false ∧ ((∃ id' off,gt PV.undef st.slots s = .ptr id' off ∧ id ≠ id') ∨ ∃ vs,gt PV.undef st.slots s = .ro vs):=by
  cases x with
  | tmp s =>
    simp only [apartB,Bool.and_eq_true,Bool.not_eq_true'] at h
    refine ⟨s,rfl,h.1,?_⟩
    have h2:=h.2
    split at h2
    · rename_i id' off he
      refine .inl ⟨id',off,he,?_⟩
      rintro rfl
      simp at h2
    · rename_i vs he; exact .inr ⟨vs,he⟩
    · simp at h2
  | _ => simp [apartB] at h
theorem belowB_spec {x:Operand} (h:belowB ops st x = true):∃ s,x = .tmp s ∧ isDst s ops = false ∧ ((∃ id' off,gt PV.undef st.slots s = .ptr id' off ∧ id' < st.heap.length) ∨ ∃ vs,gt PV.undef st.slots s = .ro vs):=by
  cases x with
  | tmp s =>
    simp only [belowB,Bool.and_eq_true,Bool.not_eq_true'] at h
    refine ⟨s,rfl,h.1,?_⟩
    have h2:=h.2
    split at h2
    · rename_i id' off he
      exact .inl ⟨id',off,he,Nat.le_of_ble_eq_true h2⟩
    · rename_i vs he; exact .inr ⟨vs,he⟩
    · simp at h2
  | _ => simp [belowB] at h
theorem exec_swap (h:swapB C ops app i b st = true) {p1 p2:Bool × St} (h1:exec C ops i st = some p1) (h2:exec C ops b p1.2 = some p2) :
    ∃ q1,exec C ops b st = some (p2.1,q1) ∧ exec C ops i q1 = some (p1.1,p2.2):=by
  rw [swapB_iff] at h
  obtain ⟨⟨⟨d1,d2,d3⟩,_⟩,h⟩:=h
  rcases h with ⟨hV,hc,hca,hcond⟩ | ⟨hV,hca,hcond⟩
  · have hokb:=condA_ok hcond
    obtain ⟨v,e1,e2⟩:=exec_val (hV.imp id fun h => ⟨h,hc⟩) h1
    rw [e1,exec_frameO hokb d1 d2] at h2
    cases hb:exec C ops b st with
    | none => rw [hb] at h2; simp at h2
    | some q =>
      rw [hb] at h2; simp only [Option.map_some,Option.some.injEq] at h2
      subst h2
      have hch:=exec_chg hokb hb
      refine ⟨q.2,rfl,e2 q.2 (fun t ht => hch.slot t (isDstOf_false d3 t ht) fun hl => calmAll_spec.1 hca t hl ht) ?_⟩
      intro T x id off ho hx ob hob
      rcases hch.heap with hh | ⟨T',x',y',id',off',hs,hx',hh⟩
      · exact hh id ob hob
      · rw [hh id ?_]; exact hob
        rintro rfl
        unfold condA at hcond
        rw [hs,ho] at hcond
        simp only [hx] at hcond
        obtain ⟨s,rfl,_,hsl⟩:=apartB_spec hcond
        simp only [ev] at hx'
        rcases hsl with ⟨id2,off2,hsl,hne⟩ | ⟨vs,hsl⟩
        · rw [hsl] at hx'; simp at hx'; exact hne hx'.1.symm
        · rw [hsl] at hx'; simp at hx'
  · obtain ⟨hoki,hkind⟩:=condB_ok (C:=C) hcond
    have hch:=exec_chg hoki h1
    obtain ⟨v,e1,e2⟩:=exec_val (.inl hV) h2
    have hsame:∀ t ∈ rdS ops b,gt PV.undef p1.2.slots t = gt .undef st.slots t:=fun t ht => hch.slot t (isDstOf_false d1 t ht) fun hl => calmAll_spec.1 hca t hl ht
    have hb:=e2 st (fun t ht => (hsame t ht).symm) ?_
    · refine ⟨_,hb,?_⟩
      rw [exec_frameO hoki d3 (sameDst_symm d2),h1]
      simp [e1]
    · intro T x id off ho hx ob hob
      have hx:ev st x = .ptr id off:=by
        have:=agree_of (st:=st) (st':=p1.2) (l:=b.op.operands.toList) (fun t ht => hsame t (by simp [rdS,ht])) x (by rw [ho]; simp [Op.operands])
        rw [← this]; exact hx
      unfold condB at hcond
      rcases hkind with ⟨T',x',y',hk⟩ | ⟨T',hk⟩
      · rw [hk,ho] at hcond
        dsimp only at hcond
        split at hcond
        · rename_i id2 off2 hx2
          obtain ⟨s,rfl,_,hsl⟩:=apartB_spec hcond
          simp only [ev] at hx
          rcases hch.heap with hh | ⟨T3,x3,y3,id3,off3,hs3,hx3,hh⟩
          · -- nothing was stored
            rcases hsl with ⟨id4,off4,hsl,hne⟩ | ⟨vs,hsl⟩
            · rw [hsl] at hx; simp at hx
              cases hst:st.heap[id]? with
              | some ob' => rw [hh id ob' hst] at hob; exact hob
              | none =>
                exfalso
                have hl:p1.2.heap.length = st.heap.length:=hch.hleq (by rw [hk]; simp)
                have:=(List.getElem?_eq_some_iff.1 hob).1
                rw [hl] at this
                rw [List.getElem?_eq_none_iff] at hst; omega
            · rw [hsl] at hx; simp at hx
          · rw [hk] at hs3
            simp at hs3
            obtain ⟨rfl,rfl,rfl⟩:=hs3
            rw [hx2] at hx3; simp at hx3
            rcases hsl with ⟨id4,off4,hsl,hne⟩ | ⟨vs,hsl⟩
            · rw [hsl] at hx; simp at hx
              rw [hh id (by rintro rfl; exact hne (hx3.1.trans hx.1.symm))] at hob
              exact hob
            · rw [hsl] at hx; simp at hx
        · simp at hcond
      · rw [hk,ho] at hcond
        dsimp only at hcond
        obtain ⟨s,rfl,_,hsl⟩:=belowB_spec hcond
        simp only [ev] at hx
        rcases hsl with ⟨id4,off4,hsl,hlt⟩ | ⟨vs,hsl⟩
        · rw [hsl] at hx; simp at hx
          rcases hch.heap with hh | ⟨T3,x3,y3,id3,off3,hs3,_⟩
          · have hlt:id < st.heap.length:=by omega
            have:=hh id _ (List.getElem?_eq_getElem hlt)
            rw [this] at hob
            rw [List.getElem?_eq_getElem hlt]; exact hob
          · rw [hk] at hs3; simp at hs3
        · rw [hsl] at hx; simp at hx
end
end Go.PS
end

section
namespace Go.PS
open Go.RowKit
section
variable {P:Program} {C:Ctx} {ops:List Oper} {st st' st1:St} {R:Type} {o i b c x y:Oper} {kp:DV → List PObj → Option R} {k:St → Option R} {r:R} {sy:Sy} {app two:Bool}
theorem swap_same (h:swapB C ops app y x st = true) {p:Bool × St} (he:exec C ops x st = some p):(∀ t ∈ rdS ops y,gt PV.undef p.2.slots t = gt .undef st.slots t) ∧ Chg x st p.2 ∧ okOp C x.op = true ∧ okOp C y.op = true:=by
  rw [swapB_iff] at h
  obtain ⟨⟨⟨d1,d2,d3⟩,_⟩,h⟩:=h
  rcases h with ⟨hV,hc,hca,hcond⟩ | ⟨hV,hca,hcond⟩
  · have hok:=condA_ok hcond
    have hch:=exec_chg hok he
    exact ⟨fun t ht => hch.slot t (isDstOf_false d3 t ht) fun hl => calmAll_spec.1 hca t hl ht,hch,hok,okV hV⟩
  · have hok:okOp C x.op = true:=okV (.inl hV)
    have hch:=exec_chg hok he
    exact ⟨fun t ht => hch.slot t (isDstOf_false d3 t ht) fun hl => by rw [sureV_lin hV] at hl; simp at hl,hch,hok,(condB_ok (C:=C) hcond).1⟩
theorem calmI_same {op:Op} (h:∀ t ∈ tmpsL op.operands.toList,gt PV.undef st'.slots t = gt .undef st.slots t):calmI op st' = calmI op st:=by
  cases op with
  | move x => cases x <;> simp only [calmI]; rw [h _ (by simp [Op.operands,tmpsL])]
  | assign x => cases x <;> simp only [calmI]; rw [h _ (by simp [Op.operands,tmpsL])]
  | extract x i => cases x <;> simp only [calmI]; rw [h _ (by simp [Op.operands,tmpsL])]
  | _ => rfl
theorem apartB_stable (hch:Chg x st st1) (hx:x ∈ ops) {id:Nat} {z:Operand} (h:apartB ops st id z = true):apartB ops st1 id z = true:=by
  obtain ⟨s,rfl,h1,h2⟩:=apartB_spec h
  have:gt PV.undef st1.slots s = gt .undef st.slots s:=hch.slot s (isDst_mem h1 x hx) fun _ => by
    rcases h2 with ⟨id',off,h2,_⟩ | ⟨vs,h2⟩ <;> rw [h2] <;> rfl
  simp only [apartB] at h ⊢
  rw [this]; exact h
theorem belowB_stable (hch:Chg x st st1) (hx:x ∈ ops) {z:Operand} (h:belowB ops st z = true):belowB ops st1 z = true:=by
  obtain ⟨s,rfl,h1,h2⟩:=belowB_spec h
  have:gt PV.undef st1.slots s = gt .undef st.slots s:=hch.slot s (isDst_mem h1 x hx) fun _ => by
    rcases h2 with ⟨id',off,h2,_⟩ | ⟨vs,h2⟩ <;> rw [h2] <;> rfl
  simp only [belowB,this,h1]
  rcases h2 with ⟨id',off,h2,hlt⟩ | ⟨vs,h2⟩
  · rw [h2]
    have:=hch.hlen
    simp only [Bool.not_false,Bool.true_and]
    exact Nat.ble_eq_true_of_le (by omega)
  · rw [h2]; rfl
theorem swap_stable (h:swapB C ops app y x st = true) {p:Bool × St} (he:exec C ops x st = some p) (hx:x ∈ ops) (hc:swapB C ops app y c st = true):swapB C ops app y c p.2 = true:=by
  obtain ⟨hs,hch,_⟩:=swap_same h he
  have hev:∀ z ∈ y.op.operands.toList,ev p.2 z = ev st z:=agree_of fun t ht => hs t (by simp [rdS,ht])
  rw [swapB_iff] at hc ⊢
  obtain ⟨h1,h2⟩:=hc
  refine ⟨h1,?_⟩
  rcases h2 with ⟨k1,k2,k3,k4⟩ | ⟨k1,k2,k3⟩
  · refine .inl ⟨k1,?_,?_,?_⟩
    · rw [calmI_same fun t ht => hs t (by simp [rdS,ht])]; exact k2
    · rw [calmAll_spec] at k3 ⊢
      intro t h1 h2
      rw [hs t h2]; exact k3 t h1 h2
    · unfold condA at k4 ⊢
      split at k4
      · rfl
      · split at k4
        · rename_i T z hy
          rw [hev z (by rw [hy]; simp [Op.operands])]
          split at k4
          · exact apartB_stable hch hx k4
          · rfl
          · simp at k4
        · rfl
      · exact k4
  · refine .inr ⟨k1,?_,?_⟩
    · rw [calmAll_spec] at k2 ⊢
      intro t h1 h2
      rw [hs t (linS_rd h1)]; exact k2 t h1 h2
    · unfold condB at k3 ⊢
      split at k3
      · rename_i T z u hy
        rw [hev z (by rw [hy]; simp [Op.operands])]
        split at k3
        · split at k3
          · exact apartB_stable hch hx k3
          · rfl
        · simp at k3
      · split at k3
        · exact belowB_stable hch hx k3
        · rfl
      · simp at k3
theorem updS_comm (h:swapB C ops app i b st = true) (r1 r2:Bool) (sy:Sy) (s1 s2 s3 s4:St):updS C app b r2 s1 (updS C app i r1 s2 sy) = updS C app i r1 s3 (updS C app b r2 s4 sy):=by
  rw [swapB_iff] at h
  obtain ⟨⟨⟨d1,d2,d3⟩,hk⟩,_⟩:=h
  cases app with
  | false => rfl
  | true =>
    obtain ⟨k1,k2⟩:=hk rfl
    obtain ⟨g,g1,_,_,g2⟩:=keepS_syncs k1 r1
    obtain ⟨f,f1,_,_,f2⟩:=keepS_syncs k2 r2
    rw [g2,f2,f2,g2]
    refine addO_comm (sameDst_symm d2) (fun t ht => f1 t fun hm => ?_) (fun t ht => g1 t fun hm => ?_)
    · exact isDstOf_false d1 t (by simp [rdS,hm]) ht
    · exact isDstOf_false d3 t (by simp [rdS,hm]) ht
theorem dynAll_spec {n:Nat}:∀ {l:List (Nat × Oper)},dynAll C ops app two n o sy st l = true ↔ ∀ q ∈ l,ordered2 ops n q.2 = true ∨ (two = true ∧ isAlloc o.op = true ∧ isAlloc q.2.op = true) ∨ swapB C ops app o q.2 st = true ∨ swapF C ops app o q.2 st = true ∨ swapG C ops app o q.2 sy st = true:=by
  intro l
  induction l with
  | nil => simp [dynAll]
  | cons q l ih => obtain ⟨m,b⟩:=q; simp [dynAll,ih,and_assoc,or_assoc]
def frOut (C:Ctx) (o:Oper) (st:St):Option (Out × List PObj) :=
  match o.op with
  | .call { callee:=.value (.func f),args,.. } => (match C.env f with
    | some (.fr s) => (frameT s (bargs [] (evs st args.toList)) st.heap).val
    | _ => none)
  | _ => none
theorem frCall_inv (h:frCall C o.op = true):∃ f args ats s,o.op = .call { callee:=.value (.func f),args,argTypes:=ats } ∧ C.env f = some (.fr s):=by
  unfold frCall at h
  split at h
  · rename_i f args ats hop
    unfold frCallee at h
    split at h
    · rename_i g
      split at h
      · rename_i s hs; exact ⟨g,args,ats,s,hop,hs⟩
      · simp at h
    · simp at h
  · simp at h
theorem fr_notOk (h:frCall C o.op = true):okOp C o.op = false:=by
  obtain ⟨f,args,ats,s,hop,hs⟩:=frCall_inv h
  rw [hop]
  simp [okOp,sureV,pureCallee,hs,linV]
theorem ok_notFr (h:okOp C o.op = true):frCall C o.op = false:=by
  cases hf:frCall C o.op with
  | false => rfl
  | true => rw [fr_notOk hf] at h; simp at h
theorem fr_pop (h:frCall C o.op = true):popK C sy o st kp k = match frOut C o st with
    | some (.ret v,h) => k (St.put ⟨st.slots,h⟩ o.dst v)
    | some (.pan v,h) => kp v h
    | none => none:=by
  obtain ⟨f,args,ats,s,hop,hs⟩:=frCall_inv h
  unfold popK frOut
  rw [hop]
  simp only [ev,hs]
  rw [Tr.run_eq]
  cases (frameT s (bargs [] (evs st args.toList)) st.heap).val with
  | none => rfl
  | some p => obtain ⟨out,H⟩:=p; cases out <;> rfl
theorem frOut_ext (h:frCall C o.op = true) (h1:SameOn st st' o.op.operands.toList) (h2:st'.heap = st.heap):frOut C o st' = frOut C o st ∧ reach st' o.op = reach st o.op:=by
  obtain ⟨f,args,ats,s,hop,hs⟩:=frCall_inv h
  have ha:SameOn st st' args.toList:=fun y hy => h1 y (by rw [hop]; simp [Op.operands,Call.operands]; exact .inr (by simpa using hy))
  unfold frOut reach
  rw [hop]
  simp only [hs]
  rw [evs_ext ha,h2]
  exact ⟨rfl,rfl⟩
theorem putH_apart {g:Nat → Nat}:∀ {ids:List Nat} {H H2:List PObj},H.length ≤ (putH g H ids H2).length ∧ ∀ id,id < H.length → memN id ids = false → (putH g H ids H2)[id]? = H[id]?:=by
  intro ids
  induction ids with
  | nil => intro H H2; simp only [putH]; exact ⟨by simp,fun id hid _ => List.getElem?_append_left hid⟩
  | cons i ids ih =>
    intro H H2
    cases H2 with
    | nil => simp only [putH]; exact ⟨by simp,fun id hid _ => List.getElem?_append_left hid⟩
    | cons ob H2 =>
      simp only [putH]
      obtain ⟨k1,k2⟩:=ih (H:=up H i (outO g ob)) (H2:=H2)
      rw [up_length] at k1 k2
      refine ⟨k1,fun id hid hm => ?_⟩
      simp only [memN,Bool.or_eq_false_iff] at hm
      rw [k2 id hid hm.2,up_eq,List.getElem?_set,if_neg (by rintro rfl; simp at hm)]
theorem frOut_heap {out:Out} {H:List PObj} (h:frCall C o.op = true) (he:frOut C o st = some (out,H)):st.heap.length ≤ H.length ∧ ∀ id,apartR (reach st o.op) st.heap id = true → H[id]? = st.heap[id]?:=by
  obtain ⟨f,args,ats,s,hop,hs⟩:=frCall_inv h
  unfold frOut at he
  rw [hop] at he
  simp only [hs] at he
  rw [frameT_val] at he
  unfold PS.frame PS.frameAt at he
  have hr:reach st o.op = visit 200 st.heap [] (bargs [] (evs st args.toList)):=by rw [hop]; rfl
  rw [hr]
  generalize visit 200 st.heap [] (bargs [] (evs st args.toList)) = ids at *
  rw [bif_some] at he
  obtain ⟨_,he⟩:=he
  split at he
  · split at he
    · split at he
      · simp only [Option.some.injEq,Prod.mk.injEq] at he
        obtain ⟨_,rfl⟩:=he
        obtain ⟨k1,k2⟩:=putH_apart (g:=gid st.heap.length ids) (ids:=ids) (H:=st.heap) (H2:=by assumption)
        refine ⟨k1,fun id hid => k2 id ?_ ?_⟩
        · simp only [apartR,Bool.and_eq_true] at hid; exact Nat.le_of_ble_eq_true hid.1
        · simp only [apartR,Bool.and_eq_true,Bool.not_eq_true'] at hid; exact hid.2
      · simp at he
    · simp at he
  · simp at he
theorem fr_syncs (h:frCall C o.op = true):syncs C o st sy = dropO o.dst (fun u => keepO (reach st o.op) st (sy u)):=by
  obtain ⟨f,args,ats,s,hop,hs⟩:=frCall_inv h
  unfold syncs reach
  rw [hop]
  simp [pureCallee,frCallee,hs]
theorem sync_comm {d e:Option Tmp} {g:Org} {ids:List Nat} {st1:St} (hne:sameDst d e = false) (h1:∀ t,e = some t → g.uses t = false) (h2:∀ t,d = some t → g.uses t = false)
    (h3:∀ a,g = .cell a → ∃ id off,gt .undef st.slots a = .ptr id off ∧ apartR ids st.heap id = true) (h4:∀ t,d ≠ some t → gt PV.undef st1.slots t = gt .undef st.slots t) (h5:st1.heap = st.heap) :
    dropO e (fun u => keepO ids st1 (addO d g sy u)) = addO d g (dropO e (fun u => keepO ids st (sy u))):=by
  have hk:∀ a,d ≠ some a → keepO ids st1 (.cell a) = keepO ids st (.cell a):=by
    intro a ha
    simp only [keepO,h4 a ha,h5]
  have hg:keepO ids st1 g = g:=by
    cases g with
    | self => rfl
    | slot v => rfl
    | cell a =>
      obtain ⟨id,off,k1,k2⟩:=h3 a rfl
      rw [hk a (by
        intro e1
        have:=h2 a e1
        simp [Org.uses] at this)]
      simp [keepO,k1,k2]
  cases d with
  | none =>
    show dropO e (fun u => keepO ids st1 (sy u)) = dropO e (fun u => keepO ids st (sy u))
    congr 1
    funext u
    cases hs:sy u with
    | self => rfl
    | slot v => rfl
    | cell a => exact hk a (by simp)
  | some d =>
    have hgd:g.uses d = false:=h2 d rfl
    have key:∀ u,keepO ids st1 ((sy u).keep d) = (keepO ids st (sy u)).keep d:=by
      intro u
      cases hs:sy u with
      | self => rfl
      | slot v =>
        simp only [Org.keep]
        cases hb:Org.uses d (.slot v) <;> simp [keepO,hb]
      | cell a =>
        cases hb:Nat.beq a d with
        | true =>
          have e1:(Org.cell a).keep d = .self:=by simp [Org.keep,Org.uses,hb]
          rw [e1]
          simp only [keepO]
          split
          · rename_i id off hp
            cases apartR ids st.heap id
            · rfl
            · simp only [cond_true]; rw [e1]
          · rfl
        | false =>
          have e1:(Org.cell a).keep d = .cell a:=by simp [Org.keep,Org.uses,hb]
          rw [e1,hk a (by rintro e; simp at e; subst e; simp at hb)]
          simp only [keepO]
          split
          · cases apartR ids st.heap _
            · rfl
            · simp only [cond_true]; rw [e1]
          · rfl
    cases e with
    | none =>
      funext u
      show keepO ids st1 (addS d g sy u) = addS d g (fun u => keepO ids st (sy u)) u
      unfold addS
      cases hu:Nat.beq u d
      · simp only [cond_false]; exact key u
      · simp only [cond_true]; exact hg
    | some e =>
      funext u
      show dropS e (fun u => keepO ids st1 (addS d g sy u)) u = addS d g (dropS e (fun u => keepO ids st (sy u))) u
      unfold dropS addS
      cases hu:Nat.beq u d
      · cases hv:Nat.beq u e
        · simp only [hu,hv,cond_false]; rw [key u,keep_keep]
        · simp only [hu,hv,cond_false,cond_true]; rfl
      · have:=Nat.eq_of_beq_eq_true hu; subst this
        have hv:Nat.beq u e = false:=by simpa [sameDst] using hne
        simp only [hu,cond_true,hv,cond_false]
        rw [hg]
        simp only [Org.keep,h1 e rfl,cond_false]
structure SwapP (C:Ctx) (ops:List Oper) (app:Bool) (i b x:Oper):Prop where
  s:SwapS ops i b
  k:app = true → keepS C x.op = true
theorem swapS_iff {x:Oper}:swapS C ops app i b x = true ↔ SwapP C ops app i b x:=by
  unfold swapS
  simp only [Bool.and_eq_true,Bool.or_eq_true,Bool.not_eq_true']
  constructor
  · rintro ⟨⟨⟨h1,h2⟩,h3⟩,h4⟩
    exact ⟨⟨h1,h2,h3⟩,fun e => h4.elim (fun h4 => by rw [e] at h4; simp at h4) id⟩
  · rintro ⟨⟨h1,h2,h3⟩,h4⟩
    refine ⟨⟨⟨h1,h2⟩,h3⟩,?_⟩
    cases app
    · exact .inl rfl
    · exact .inr (h4 rfl)
theorem swapF_iff:swapF C ops app i b st = true ↔ (frCall C b.op = true ∧ freeA C i.op = true ∧ calmI i.op st = true ∧ SwapP C ops app i b i) ∨
    (frCall C i.op = true ∧ quiet b.op = true ∧ noDst ops (rdS ops b) = true ∧ goes C ops b st = true ∧ SwapP C ops app i b b):=by
  unfold swapF
  simp only [Bool.or_eq_true,Bool.and_eq_true,swapS_iff,and_assoc]
structure SwapA (C:Ctx) (ops:List Oper) (app:Bool) (i b:Oper) (sy:Sy) (st:St) (t:Nat):Prop where
  src:appSrc i.op = some t
  ap:app = true
  nd:noDst ops (rdS ops b) = true
  go:goes C ops b st = true
  p:SwapP C ops app i b b
  nt:t ∉ rdS ops b
  og:(∀ v,sy t = .slot v → b.dst ≠ some v ∧ v ∉ rdS ops b) ∧ ∀ a,sy t = .cell a → b.dst ≠ some a
theorem notAt_iff {d:Option Tmp} {v:Nat} (h:notAt d v = true):d ≠ some v:=by
  rintro rfl
  simp [notAt] at h
theorem memN_false {t:Nat} {l:List Nat} (h:memN t l = false):t ∉ l:=fun hm => by rw [memN_mem.2 hm] at h; simp at h
theorem swapG_inv (h:swapG C ops app i b sy st = true):∃ t,SwapA C ops app i b sy st t ∧ appSrc i.op = some t ∧ quiet b.op = true:=by
  unfold swapG at h
  split at h
  · rename_i t ht
    simp only [Bool.and_eq_true,Bool.not_eq_true'] at h
    obtain ⟨⟨⟨⟨⟨⟨h1,h2⟩,h3⟩,h4⟩,h5⟩,h6⟩,h7⟩:=h
    refine ⟨t,⟨ht,h1,h3,h4,swapS_iff.1 h5,memN_false h6,?_,?_⟩,ht,h2⟩
    · intro v hv
      rw [hv] at h7
      simp only [Bool.and_eq_true,Bool.not_eq_true'] at h7
      exact ⟨notAt_iff h7.1,memN_false h7.2⟩
    · intro a ha
      rw [ha] at h7
      exact notAt_iff h7
  · simp at h
theorem swapG_mk {t:Nat} (h:SwapA C ops app i b sy st t) (hq:quiet b.op = true):swapG C ops app i b sy st = true:=by
  unfold swapG
  rw [h.src]
  have e1:memN t (rdS ops b) = false:=by
    cases hm:memN t (rdS ops b) with
    | false => rfl
    | true => exact absurd (memN_mem.1 hm) h.nt
  have nA:∀ v,b.dst ≠ some v → notAt b.dst v = true:=by
    intro v hv
    unfold notAt
    split
    · rename_i t' ht'
      cases hb:Nat.beq t' v with
      | false => rfl
      | true => exact absurd (by rw [ht',Nat.eq_of_beq_eq_true hb]) hv
    · rfl
  have hp:swapS C ops app i b b = true:=swapS_iff.2 h.p
  dsimp only
  rw [hq,h.nd,h.go,hp,e1,h.ap]
  simp only [Bool.true_and,Bool.not_false]
  split
  · rfl
  · rename_i v hv
    obtain ⟨h1,h2⟩:=h.og.1 v hv
    have e2:memN v (rdS ops b) = false:=by
      cases hm:memN v (rdS ops b) with
      | false => rfl
      | true => exact absurd (memN_mem.1 hm) h2
    rw [nA v h1,e2]; rfl
  · rename_i a ha
    exact nA a (h.og.2 a ha)
theorem appSrc_inv {op:Op} {t:Nat} (h:appSrc op = some t):∃ x args ats,op = .call { callee:=.builtin .append,args,argTypes:=ats } ∧ args.toList = [.tmp t,x]:=by
  unfold appSrc at h
  split at h
  · rename_i args ats
    split at h
    · rename_i t' x hl
      simp at h; subst h
      exact ⟨x,args,ats,rfl,hl⟩
    · simp at h
  · simp at h
theorem app_notOk {t:Nat} (h:appSrc o.op = some t):okOp C o.op = false:=by
  obtain ⟨x,args,ats,hop,_⟩:=appSrc_inv h
  rw [hop]; rfl
theorem app_notFr {t:Nat} (h:appSrc o.op = some t):frCall C o.op = false:=by
  obtain ⟨x,args,ats,hop,_⟩:=appSrc_inv h
  rw [hop]; rfl
def appOut (C:Ctx) (o:Oper) (sy:Sy) (st:St):Option St:=popK (R:=St) C sy o st (fun _ _ => none) some
theorem takeOwn_nat {R:Type} {t:Nat} {src:Org} {S:Type} (f:Nat → List DV → St → Option S) (k:S → Option R):(takeOwn st t src f).bind k = takeOwn st t src fun a b c => (f a b c).bind k:=by
  unfold takeOwn
  split
  · rfl
  · split
    · rfl
    · split <;> rfl
    · split
      · rw [heapCells_nat]
        congr 1
        funext cs
        split <;> rfl
      · rfl
  · rfl
theorem app_pop {t:Nat} (h:appSrc o.op = some t):popK C sy o st kp k = (appOut C o sy st).bind k:=by
  obtain ⟨x,args,ats,hop,hl⟩:=appSrc_inv h
  unfold appOut popK
  rw [hop]
  dsimp only
  rw [hl]
  split
  · rename_i t' x' tT tX hx hat
    simp only [List.cons.injEq,Operand.tmp.injEq,and_true] at hx
    obtain ⟨rfl,rfl⟩:=hx
    split
    · rename_i e _
      cases ((C.ty e).zero.isEmpty || Nat.beq (C.ty e).bytes 0) with
      | true => rfl
      | false =>
        simp only [cond_false]
        rw [takeOwn_nat]
        congr 1
        funext sz vs st'
        unfold sized
        cases Nat.beq sz (C.ty e).size with
        | false => rfl
        | true =>
          simp only [cond_true]
          split
          · rename_i sx xs _ _ _
            cases Nat.beq sx (C.ty e).size with
            | false => rfl
            | true => simp only [cond_true]; rw [chk_bind]; rfl
          · cases Nat.beq (C.ty e).size 1 with
            | false => rfl
            | true => simp only [cond_true]; rw [chk_bind]; rfl
          · rfl
    · rfl
  · rfl
theorem takeOwn_put {R:Type} {t:Nat} {src:Org} {d:Option Tmp} {v:PV} (h1:d ≠ some t) (h2:∀ w,src = .slot w → d ≠ some w) (h3:∀ a,src = .cell a → d ≠ some a) (f:Nat → List DV → St → Option R) :
    takeOwn (st.put d v) t src f = takeOwn st t src fun a b c => f a b (c.put d v):=by
  cases d with
  | none => rfl
  | some d =>
    have g:∀ w,d ≠ w → gt PV.undef (st.put (some d) v).slots w = gt .undef st.slots w:=fun w hw => gt_put (by simpa using hw)
    have sc:∀ w u,d ≠ w → (st.put (some d) v).set w u = (st.set w u).put (some d) v:=fun w u hw => (set_set (st:=st) (fun e => hw e.symm):_)
    have h1:d ≠ t:=by simpa using h1
    unfold takeOwn
    rw [g t h1]
    split
    · rw [sc t _ h1]
    · cases src with
      | self => rfl
      | slot w =>
        have hw:d ≠ w:=by simpa using h2 w rfl
        dsimp only
        rw [g w hw]
        split
        · rw [sc w _ hw]
        · rfl
      | cell a =>
        have ha:d ≠ a:=by simpa using h3 a rfl
        dsimp only
        rw [g a ha]
        split <;> rfl
    · rfl
theorem appOut_put {t:Nat} {d:Option Tmp} {v:PV} {sy' : Sy} (h:appSrc o.op = some t) (h1:isDstOf d (rdS ops o) = false) (hd:sameDst d o.dst = false) (hs:sy' t = sy t) (h2:∀ w,sy t = .slot w → d ≠ some w) (h3:∀ a,sy t = .cell a → d ≠ some a) :
    appOut C o sy' (st.put d v) = (appOut C o sy st).map fun s => s.put d v:=by
  obtain ⟨x,args,ats,hop,hl⟩:=appSrc_inv h
  have hrd:∀ y ∈ args.toList,∀ u,y = .tmp u → d ≠ some u:=by
    intro y hy u hu
    refine isDstOf_false h1 u ?_
    simp only [rdS,List.mem_append]
    refine .inl (tmpsL_mem ?_)
    rw [hop,← hu]
    simp [Op.operands,Call.operands]
    simpa using hy
  have ht:d ≠ some t:=hrd (.tmp t) (by rw [hl]; simp) t rfl
  have hx:∀ s:St,ev (s.put d v) x = ev s x:=by
    intro s
    cases x with
    | tmp u => exact gt_put (hrd (.tmp u) (by rw [hl]; simp) u rfl)
    | _ => rfl
  have pc:∀ (s:St) u,(s.put d v).put o.dst u = (s.put o.dst u).put d v:=fun s u => put_put_comm hd
  unfold appOut popK
  rw [hop]
  dsimp only
  rw [hl]
  split
  · rename_i t' x' tT tX hx' hat
    simp only [List.cons.injEq,Operand.tmp.injEq,and_true] at hx'
    obtain ⟨rfl,rfl⟩:=hx'
    split
    · rename_i e _
      cases ((C.ty e).zero.isEmpty || Nat.beq (C.ty e).bytes 0) with
      | true => rfl
      | false =>
        simp only [cond_false]
        rw [hs,takeOwn_put ht h2 h3]
        rw [show ∀ (z:Option St),z.map (fun s => s.put d v) = z.bind fun s => some (s.put d v) from fun z => by cases z <;> rfl,takeOwn_nat]
        congr 1
        funext sz vs st'
        rw [hx]
        unfold sized
        cases Nat.beq sz (C.ty e).size with
        | false => rfl
        | true =>
          simp only [cond_true]
          split
          · rename_i sx xs _ _ _
            cases Nat.beq sx (C.ty e).size with
            | false => rfl
            | true => simp only [cond_true]; rw [chk_bind,pc]; rfl
          · cases Nat.beq (C.ty e).size 1 with
            | false => rfl
            | true => simp only [cond_true]; rw [chk_bind,pc]; rfl
          · rfl
    · rfl
  · rfl
theorem takeOwn_slot {t:Nat} {src:Org} {f:Nat → List DV → St → Option St} {s1:St} {u:Nat} (h:takeOwn st t src f = some s1) (h1:u ≠ t) (h2:∀ w,src = .slot w → u ≠ w) :
    ∃ sz vs s0,f sz vs s0 = some s1 ∧ gt PV.undef s0.slots u = gt .undef st.slots u:=by
  unfold takeOwn at h
  split at h
  · exact ⟨_,_,_,h,gt_set (by omega)⟩
  · split at h
    · simp at h
    · rename_i w
      split at h
      · exact ⟨_,_,_,h,gt_set (by have:=h2 w rfl; omega)⟩
      · simp at h
    · split at h
      · obtain ⟨cs,_,h⟩:=heapCells_inv h
        split at h
        · exact ⟨_,_,_,h,rfl⟩
        · simp at h
      · simp at h
  · simp at h
theorem appOut_slot {t:Nat} {s1:St} {u:Nat} (h:appSrc o.op = some t) (ho:appOut C o sy st = some s1) (hd:o.dst ≠ some u) (h1:u ≠ t) (h2:∀ w,sy t = .slot w → u ≠ w):gt PV.undef s1.slots u = gt .undef st.slots u:=by
  obtain ⟨x,args,ats,hop,hl⟩:=appSrc_inv h
  unfold appOut popK at ho
  rw [hop] at ho
  dsimp only at ho
  rw [hl] at ho
  split at ho
  · rename_i t' x' tT tX hx' hat
    simp only [List.cons.injEq,Operand.tmp.injEq,and_true] at hx'
    obtain ⟨rfl,rfl⟩:=hx'
    split at ho
    · rename_i e _
      rw [bif_none_some] at ho
      obtain ⟨sz,vs,s0,h3,h4⟩:=takeOwn_slot ho.2 h1 h2
      rw [← h4]
      unfold sized at h3
      rw [bif_some] at h3
      have h3:=h3.2
      split at h3
      · rw [bif_some,chk_some] at h3
        have:=h3.2.2
        simp at this; subst this
        exact gt_put hd
      · rw [bif_some,chk_some] at h3
        have:=h3.2.2
        simp at this; subst this
        exact gt_put hd
      · simp at h3
    · simp at ho
  · simp at ho
theorem swapB_notFr (h:swapB C ops app i b st = true):frCall C i.op = false ∧ frCall C b.op = false:=by
  have:=swapB_iff.1 h
  rcases this.2 with ⟨hV,_,_,hcond⟩ | ⟨hV,_,hcond⟩
  · exact ⟨ok_notFr (okV hV),ok_notFr (condA_ok hcond)⟩
  · exact ⟨ok_notFr (condB_ok (C:=C) hcond).1,ok_notFr (okV (.inl hV))⟩
theorem freeA_val (h:freeA C o.op = true) (hc:calmI o.op st = true):sureV C o.op = true ∨ (linV o.op = true ∧ calmI o.op st = true):=by
  unfold freeA at h
  split at h
  · rename_i t hop; exact .inr ⟨by rw [hop]; rfl,hc⟩
  · exact .inl h
theorem freeA_ok (h:freeA C o.op = true):okOp C o.op = true:=by
  unfold freeA at h
  split at h
  · rename_i t hop; rw [hop]; simp [okOp,linV]
  · exact okV (.inl h)
theorem quiet_sure (h:quiet o.op = true):sureV C o.op = true:=by
  obtain ⟨dst,op,ty,pos,after,guard⟩:=o
  cases op
  case call c =>
    obtain ⟨callee,args,ats⟩:=c
    cases callee with
    | builtin b => cases b <;> first | rfl | cases h
    | _ => cases h
  all_goals simp_all [quiet,sureV]
theorem quiet_notLoad (h:quiet o.op = true) {T:TypeId} {x:Operand}:o.op ≠ .load T x:=by
  intro e; rw [e] at h; simp [quiet] at h
theorem goes_exec (h:okOp C o.op = true):goes C ops o st = (exec C ops o st).isSome:=by
  unfold goes exec
  rw [guarded_gd]
  cases gd ops o st with
  | none => rfl
  | some b =>
    cases b with
    | true => dsimp only; rw [okOp_nat h]; cases effE C o st <;> rfl
    | false => rfl
theorem noDst_spec {t:Nat}:∀ {l:List Nat},noDst ops l = true → t ∈ l → isDst t ops = false:=by
  intro l
  induction l with
  | nil => intro _ h; simp at h
  | cons u l ih =>
    intro h hm
    simp only [noDst,Bool.and_eq_true,Bool.not_eq_true'] at h
    rcases List.mem_cons.1 hm with rfl | hm
    · exact h.1
    · exact ih h.2 hm
theorem stepK_fr (h:frCall C o.op = true) (K:Sy → St → Option R):stepK C ops app kp o sy st K = match gd ops o st with
    | some true => (match frOut C o st with
      | some (.ret v,h) => K (updS C app o true st sy) (St.put ⟨st.slots,h⟩ o.dst v)
      | some (.pan v,h) => kp v h
      | none => none)
    | some false => K (updS C app o false st sy) (st.put o.dst .skp)
    | none => none:=by
  unfold stepK
  rw [guarded_gd]
  cases gd ops o st with
  | none => rfl
  | some g =>
    cases g with
    | true =>
      dsimp only
      rw [fr_pop h]
      cases app <;> rfl
    | false => cases app <;> rfl
theorem put_heap2 {d e:Option Tmp} {u v:PV} {H:List PObj} (h:sameDst d e = false):(St.put ⟨(st.put d u).slots,H⟩ e v) = (St.put ⟨st.slots,H⟩ e v).put d u:=by
  have:(⟨(st.put d u).slots,H⟩:St) = (St.put ⟨st.slots,H⟩ d u):=by cases d <;> rfl
  rw [this]
  exact put_put_comm h
theorem swapB_stab {st1:St} (hs:∀ t ∈ rdS ops y,gt PV.undef st1.slots t = gt .undef st.slots t) (hd:∀ s,isDst s ops = false → gt PV.undef st1.slots s = gt .undef st.slots s) (hl:st.heap.length ≤ st1.heap.length)
    (hc:swapB C ops app y c st = true):swapB C ops app y c st1 = true:=by
  have hev:∀ z ∈ y.op.operands.toList,ev st1 z = ev st z:=agree_of fun t ht => hs t (by simp [rdS,ht])
  have hap:∀ {id:Nat} {z:Operand},apartB ops st id z = true → apartB ops st1 id z = true:=by
    intro id z h
    obtain ⟨s,rfl,h1,h2⟩:=apartB_spec h
    simp only [apartB] at h ⊢
    rw [hd s h1]; exact h
  have hbe:∀ {z:Operand},belowB ops st z = true → belowB ops st1 z = true:=by
    intro z h
    obtain ⟨s,rfl,h1,h2⟩:=belowB_spec h
    simp only [belowB,hd s h1,h1]
    rcases h2 with ⟨id',off,h2,hlt⟩ | ⟨vs,h2⟩
    · rw [h2]
      simp only [Bool.not_false,Bool.true_and]
      exact Nat.ble_eq_true_of_le (by omega)
    · rw [h2]; rfl
  rw [swapB_iff] at hc ⊢
  obtain ⟨h1,h2⟩:=hc
  refine ⟨h1,?_⟩
  rcases h2 with ⟨k1,k2,k3,k4⟩ | ⟨k1,k2,k3⟩
  · refine .inl ⟨k1,?_,?_,?_⟩
    · rw [calmI_same fun t ht => hs t (by simp [rdS,ht])]; exact k2
    · rw [calmAll_spec] at k3 ⊢
      intro t h1 h2
      rw [hs t h2]; exact k3 t h1 h2
    · unfold condA at k4 ⊢
      split at k4
      · rfl
      · split at k4
        · rename_i T z hy
          rw [hev z (by rw [hy]; simp [Op.operands])]
          split at k4
          · exact hap k4
          · rfl
          · simp at k4
        · rfl
      · exact k4
  · refine .inr ⟨k1,?_,?_⟩
    · rw [calmAll_spec] at k2 ⊢
      intro t h1 h2
      rw [hs t (linS_rd h1)]; exact k2 t h1 h2
    · unfold condB at k3 ⊢
      split at k3
      · rename_i T z u hy
        rw [hev z (by rw [hy]; simp [Op.operands])]
        split at k3
        · split at k3
          · exact hap k3
          · rfl
        · simp at k3
      · split at k3
        · exact hbe k3
        · rfl
      · simp at k3
def Num (C:Ctx) (ops:List Oper) (L:List (Nat × Oper)):Prop :=
  (∀ q ∈ L,frCall C q.2.op = false) ∨ ((∀ q ∈ L,q ∈ numbered 0 ops) ∧ L.Pairwise (fun q q' => q.1 < q'.1) ∧ (numbered 0 ops).Pairwise (fun q q' => q.1 < q'.1))
theorem Num.tail {q:Nat × Oper} {L:List (Nat × Oper)} (h:Num C ops (q :: L)):Num C ops L:=by
  rcases h with h | ⟨h1,h2,h3⟩
  · exact .inl fun z hz => h z (List.mem_cons_of_mem _ hz)
  · exact .inr ⟨fun z hz => h1 z (List.mem_cons_of_mem _ hz),(List.pairwise_cons.1 h2).2,h3⟩
theorem isDstN_false {s:Nat}:∀ {l:List (Nat × Oper)},isDstN s l = false → ∀ q ∈ l,q.2.dst ≠ some s:=by
  intro l
  induction l with
  | nil => intro _ q hq; simp at hq
  | cons z l ih =>
    intro h q hq
    obtain ⟨j,o⟩:=z
    simp only [isDstN,Bool.or_eq_false_iff] at h
    rcases List.mem_cons.1 hq with rfl | hq
    · intro e; dsimp only at e; rw [e] at h; simp at h
    · exact ih h.2 q hq
def Back (app:Bool) (c:Oper) (st:St) (o:Oper) (l:List (Nat × Oper)):Prop :=
  ∀ T z,o.op = .load T z → ∃ s,z = .tmp s ∧ isDstN s l = false ∧ ((∃ id off,gt .undef st.slots s = .ptr id off ∧ apartR (reach st c.op) st.heap id = true) ∨ ((∃ vs,gt .undef st.slots s = .ro vs) ∧ app = false) ∨ gt .undef st.slots s = .skp)
theorem backAll_get {n j:Nat}:∀ {pre l:List (Nat × Oper)},backAll C ops app n c st (pre ++ (j,o) :: l) = true → j < n → ordered2 ops j c = false → Back app c st o ((j,o) :: l):=by
  intro pre
  induction pre with
  | nil =>
    intro l h hj ho T z hop
    simp only [List.nil_append,backAll,Bool.and_eq_true] at h
    have h1:=h.1
    rw [ho,hop] at h1
    have:Nat.ble n j = false:=by
      cases hb:Nat.ble n j
      · rfl
      · have:=Nat.le_of_ble_eq_true hb; omega
    rw [this] at h1
    simp only [Bool.false_or] at h1
    cases z with
    | tmp s =>
      simp only [Bool.and_eq_true,Bool.not_eq_true'] at h1
      refine ⟨s,rfl,h1.1,?_⟩
      have h2:=h1.2
      split at h2
      · rename_i id off hp; exact .inl ⟨id,off,hp,h2⟩
      · rename_i vs hp; exact .inr (.inl ⟨⟨vs,hp⟩,by simpa using h2⟩)
      · rename_i hp; exact .inr (.inr hp)
      · simp at h2
    | _ => simp at h1
  | cons q pre ih =>
    intro l h hj ho
    obtain ⟨m,b⟩:=q
    simp only [List.cons_append,backAll,Bool.and_eq_true] at h
    exact ih h.2 hj ho
theorem back_fact {x:Nat × Oper} (hx:frCall C x.2.op = true):∀ (p:List (Nat × Oper)) {s:List (Nat × Oper)} {sy:Sy} {st:St},(∀ q ∈ p,ordered2 ops q.1 x.2 = false ∧ (two = true → isAlloc q.2.op = true → isAlloc x.2.op = false)) →
    runD C ops app two kp k (p ++ x :: s) sy st = some r → ∃ stx,turnB C ops app (numbered 0 ops) x.1 x.2 stx = true ∧ stx.heap = st.heap ∧ (∀ t,(∀ q ∈ p,q.2.dst ≠ some t) → gt PV.undef stx.slots t = gt .undef st.slots t) ∧ ∀ t ∈ rdS ops x.2,gt PV.undef stx.slots t = gt .undef st.slots t:=by
  intro p
  induction p with
  | nil =>
    intro s sy st _ h
    obtain ⟨n,o⟩:=x
    simp only [List.nil_append,runD] at h
    rw [bif_some] at h
    simp only [Bool.and_eq_true] at h
    exact ⟨st,h.1.2,rfl,fun _ _ => rfl,fun _ _ => rfl⟩
  | cons y p ih =>
    intro s sy st hord h
    obtain ⟨n,yo⟩:=y
    simp only [List.cons_append,runD] at h
    rw [bif_some] at h
    obtain ⟨hb,h⟩:=h
    simp only [Bool.and_eq_true] at hb
    have hall:=dynAll_spec.1 hb.1.2
    have ho:=hord (n,yo) (List.mem_cons_self ..)
    have hsw:frCall C x.2.op = true ∧ freeA C yo.op = true ∧ calmI yo.op st = true ∧ SwapP C ops app yo x.2 yo:=by
      rcases hall x (by simp) with h1 | ⟨h1,h2,h3⟩ | h1 | h1 | h1
      · rw [ho.1] at h1; simp at h1
      · rw [ho.2 h1 h2] at h3; simp at h3
      · rw [(swapB_notFr h1).2] at hx; simp at hx
      · rcases swapF_iff.1 h1 with h1 | ⟨_,h2,_⟩
        · exact h1
        · obtain ⟨f,args,ats,s,hop,_⟩:=frCall_inv hx
          rw [hop] at h2; simp [quiet] at h2
      · exfalso
        obtain ⟨t,h1,h2,h3⟩:=swapG_inv h1
        obtain ⟨f,args,ats,s,hop,_⟩:=frCall_inv hx
        rw [hop] at h3; simp [quiet] at h3
    obtain ⟨_,hfree,hcalm,hP⟩:=hsw
    have hoky:=freeA_ok (o:=yo) hfree
    rw [stepK_exec hoky] at h
    cases hy:exec C ops yo st with
    | none => rw [hy] at h; simp at h
    | some p1 =>
      rw [hy] at h
      simp only [Option.bind_some] at h
      obtain ⟨v,e1,_⟩:=exec_val (freeA_val hfree hcalm) hy
      obtain ⟨stx,k1,k2,k3,k4⟩:=ih (fun q hq => hord q (List.mem_cons_of_mem _ hq)) h
      refine ⟨stx,k1,by rw [k2,e1,put_heap],fun t ht => ?_,fun t ht => ?_⟩
      · rw [k3 t fun q hq => ht q (List.mem_cons_of_mem _ hq),e1]
        exact gt_put (ht (n,yo) (List.mem_cons_self ..))
      · rw [k4 t ht,e1]
        exact gt_put (isDstOf_false hP.s.d1 t ht)
theorem numbered_split {L:List (Nat × Oper)} {q:Nat × Oper} (h:q ∈ L):∃ pre l,L = pre ++ q :: l:=List.append_of_mem h
theorem turnB_stab {m n:Nat} {xo yo:Oper} {st1:St} (hm:(m,xo) ∈ numbered 0 ops) (hsort:(numbered 0 ops).Pairwise (fun q q' => q.1 < q'.1)) (hnm:n < m) (hfr:frCall C yo.op = true)
    (hs:∀ t,xo.dst ≠ some t → gt PV.undef st1.slots t = gt .undef st.slots t) (hh:st1.heap = st.heap) (hrd:∀ t ∈ rdS ops yo,gt PV.undef st1.slots t = gt .undef st.slots t)
    (h:turnB C ops app (numbered 0 ops) n yo st = true):turnB C ops app (numbered 0 ops) n yo st1 = true:=by
  unfold turnB at h ⊢
  rw [hfr] at h ⊢
  simp only [cond_true] at h ⊢
  have hreach:reach st1 yo.op = reach st yo.op:=(frOut_ext hfr (agree_of fun t ht => hrd t (by simp [rdS,ht])) hh).2
  have key:∀ L:List (Nat × Oper),L.Pairwise (fun q q' => q.1 < q'.1) → ((m,xo) ∈ L ∨ ∀ q ∈ L,m < q.1) → backAll C ops app n yo st L = true → backAll C ops app n yo st1 L = true:=by
    intro L
    induction L with
    | nil => intro _ _ _; rfl
    | cons q L ih =>
      intro hp hmem hb
      obtain ⟨j,o⟩:=q
      simp only [backAll,Bool.and_eq_true] at hb ⊢
      obtain ⟨hb1,hb2⟩:=hb
      have hp':=List.pairwise_cons.1 hp
      refine ⟨?_,ih hp'.2 ?_ hb2⟩
      · by_cases hjn:n ≤ j
        · rw [Nat.ble_eq_true_of_le hjn]; rfl
        · have hmL:(m,xo) ∈ (j,o) :: L:=by
            rcases hmem with hm | hm
            · exact hm
            · have:=hm (j,o) (by simp); simp at this; omega
          simp only [Bool.or_eq_true] at hb1 ⊢
          rcases hb1 with hb1 | hb1
          · exact .inl hb1
          · refine .inr ?_
            split at hb1
            · rename_i T s hop
              simp only [Bool.and_eq_true,Bool.not_eq_true'] at hb1 ⊢
              refine ⟨hb1.1,?_⟩
              rw [hs s (isDstN_false hb1.1 (m,xo) hmL),hreach,hh]
              exact hb1.2
            · simp at hb1
            · rfl
      · rcases hmem with hm | hm
        · rcases List.mem_cons.1 hm with e | hm
          · simp at e
            refine .inr fun q hq => ?_
            have:=hp'.1 q hq
            simp at this; omega
          · exact .inl hm
        · exact .inr fun q hq => hm q (List.mem_cons_of_mem _ hq)
  exact key _ hsort (.inl hm) h
theorem gd_of (h:∀ t ∈ rdS ops o,gt PV.undef st'.slots t = gt .undef st.slots t):gd ops o st' = gd ops o st:=gd_same fun t ht => h t (by simp [rdS,ht])
theorem updS_false (d:Oper):updS C true d false st sy = addO d.dst .self sy:=by
  show dropO d.dst sy = _
  cases d.dst <;> rfl
end
end Go.PS
end

section
namespace Go.PS
open Go.RowKit
section
variable {P:Program} {C:Ctx} {ops:List Oper} {st st' st1:St} {R:Type} {o i b c x y:Oper} {kp:DV → List PObj → Option R} {k:St → Option R} {r:R} {sy:Sy} {app two:Bool}
theorem holds_quiet (h:quiet o.op = true) (st st' : St):Holds o st st':=fun _ _ _ _ e => absurd e (quiet_notLoad h)
theorem sureExec_quiet (h:quiet o.op = true) {p:Bool × St} (he:exec C ops o st = some p) :
    ∃ v,p.2 = st.put o.dst v ∧ ∀ st',(∀ t ∈ rdS ops o,gt PV.undef st'.slots t = gt .undef st.slots t) → exec C ops o st' = some (p.1,st'.put o.dst v):=by
  obtain ⟨v,h1,h2⟩:=exec_val (.inl (quiet_sure h)) he
  exact ⟨v,h1,fun st' hs => h2 st' hs (holds_quiet h _ _)⟩
theorem heap_put_ret {d:Option Tmp} {v:PV} {H:List PObj}:(St.put ⟨st.slots,H⟩ d v).heap = H:=put_heap (st:=⟨st.slots,H⟩) d v
theorem swap_free_call {n m:Nat} {yo xo:Oper} (hx:frCall C xo.op = true) (hfree:freeA C yo.op = true) (hcalm:calmI yo.op st = true) (hP:SwapP C ops app yo xo yo) {p1:Bool × St} (hy:exec C ops yo st = some p1)
    (hback:∃ stx l,Back app xo stx yo l ∧ reach stx xo.op = reach st xo.op ∧ stx.heap = st.heap ∧ (∀ s,isDstN s l = false → gt PV.undef stx.slots s = gt .undef st.slots s)) {K1 K2:Sy → St → Option R}
    (h:stepK C ops app kp xo (updS C app yo p1.1 st sy) p1.2 K1 = some r)
    (hgo:∀ sy1 q1 v,p1.2 = st.put yo.dst v → (∀ t ∈ rdS ops yo,gt PV.undef q1.slots t = gt .undef st.slots t) → (∀ s,isDst s ops = false → xo.dst ≠ some s → gt PV.undef q1.slots s = gt .undef st.slots s) → st.heap.length ≤ q1.heap.length → exec C ops yo q1 = some (p1.1,q1.put yo.dst v) →
      K1 (updS C app yo p1.1 q1 sy1) (q1.put yo.dst v) = some r → K2 sy1 q1 = some r) :
    stepK C ops app kp xo sy st K2 = some r:=by
  have hoky:=freeA_ok (o:=yo) hfree
  obtain ⟨v,e1,e2⟩:=exec_val (freeA_val hfree hcalm) hy
  have hrdx:∀ t ∈ rdS ops xo,gt PV.undef p1.2.slots t = gt .undef st.slots t:=fun t ht => by rw [e1]; exact gt_put (isDstOf_false hP.s.d1 t ht)
  have hh1:p1.2.heap = st.heap:=by rw [e1,put_heap]
  have hgd:gd ops xo p1.2 = gd ops xo st:=gd_of hrdx
  have hout:=(frOut_ext (C:=C) hx (agree_of fun t ht => hrdx t (by simp [rdS,ht])) hh1)
  rw [stepK_fr hx] at h ⊢
  rw [hgd] at h
  obtain ⟨stx,l,hb,hreach,hhx,hslx⟩:=hback
  -- what the free operation reads stays
  have hload:∀ (q1:St),(∀ id,apartR (reach st xo.op) st.heap id = true → q1.heap[id]? = st.heap[id]?) → Holds yo st q1:=by
    intro q1 hq T z id off hop hev ob hob
    obtain ⟨s,rfl,hs1,hs2⟩:=hb T z hop
    simp only [ev] at hev
    have hsl:=hslx s hs1
    rcases hs2 with ⟨id',off',h1,h2⟩ | ⟨⟨vs,h1⟩,_⟩ | h1
    · rw [hsl,hev] at h1
      simp at h1
      rw [hreach,hhx,← h1.1] at h2
      rw [hq id h2]; exact hob
    · rw [hsl,hev] at h1; simp at h1
    · rw [hsl,hev] at h1; simp at h1
  have hrdy:∀ (w:PV) (H:List PObj),∀ t ∈ rdS ops yo,gt PV.undef (St.put ⟨st.slots,H⟩ xo.dst w).slots t = gt .undef st.slots t:=fun w H t ht => by
    have:=gt_put (st:=⟨st.slots,H⟩) (v:=w) (isDstOf_false hP.s.d3 t ht)
    exact this
  have happ:∀ g:Org,(∀ a,g = .cell a → p1.1 = true ∧ ∃ T,yo.op = .load T (.tmp a)) → app = true → ∀ a,g = .cell a → ∃ id off,gt .undef st.slots a = .ptr id off ∧ apartR (reach st xo.op) st.heap id = true:=by
    intro g hg ha a hga
    obtain ⟨hran,T,hop⟩:=hg a hga
    obtain ⟨s,hs,hs1,hs2⟩:=hb T _ hop
    simp at hs; subst hs
    have hsl:=hslx a hs1
    rcases hs2 with ⟨id',off',h1,h2⟩ | ⟨_,h2⟩ | h1
    · exact ⟨id',off',by rw [← hsl]; exact h1,by rw [← hreach,← hhx]; exact h2⟩
    · rw [ha] at h2; simp at h2
    · exfalso
      -- it ran, so its place is one
      rw [hsl] at h1
      unfold exec at hy
      split at hy
      · unfold effE popK at hy
        rw [hop] at hy
        simp only [ev,h1] at hy
        simp at hy
      · simp at hy; rw [← hy] at hran; simp at hran
      · simp at hy
  cases hg:gd ops xo st with
  | none => rw [hg] at h; simp at h
  | some g =>
    rw [hg] at h
    cases g with
    | false =>
      dsimp only at h ⊢
      refine hgo _ _ v e1 (hrdy _ _) ?_ (by rw [put_heap]; exact Nat.le_refl _) ?_ ?_
      · intro s _ hs; exact gt_put hs
      · exact e2 _ (hrdy _ _) fun T z id off _ _ ob hob => by rw [put_heap]; exact hob
      · have hst:p1.2.put xo.dst .skp = (st.put xo.dst .skp).put yo.dst v:=by rw [e1]; exact put_put_comm hP.s.d2
        rw [hst] at h
        have:updS C app xo false p1.2 (updS C app yo p1.1 st sy) = updS C app yo p1.1 (st.put xo.dst .skp) (updS C app xo false st sy):=by
          cases app with
          | false => rfl
          | true =>
            obtain ⟨g,g1,g2,_,g3⟩:=keepS_syncs (hP.k rfl) p1.1
            rw [g3,g3,updS_false,updS_false]
            exact addO_comm (sameDst_symm hP.s.d2) (fun t ht => rfl) fun t ht => g1 t fun hm => isDstOf_false hP.s.d3 t (by simp [rdS,hm]) ht
        rw [this] at h
        exact h
    | true =>
      dsimp only at h ⊢
      rw [hout.1] at h
      cases ho:frOut C xo st with
      | none => rw [ho] at h; simp at h
      | some p =>
        obtain ⟨out,H⟩:=p
        rw [ho] at h
        obtain ⟨hl1,hl2⟩:=frOut_heap hx ho
        cases out with
        | pan u => exact h
        | ret u =>
          dsimp only at h ⊢
          refine hgo _ _ v e1 (hrdy _ _) ?_ (by rw [heap_put_ret]; exact hl1) ?_ ?_
          · intro s _ hs; exact gt_put (st:=⟨st.slots,H⟩) hs
          · exact e2 _ (hrdy _ _) (hload _ fun id hid => by rw [heap_put_ret]; exact hl2 id hid)
          · have hst:St.put ⟨p1.2.slots,H⟩ xo.dst u = (St.put ⟨st.slots,H⟩ xo.dst u).put yo.dst v:=by
              rw [e1]; exact put_heap2 hP.s.d2
            rw [hst] at h
            have:updS C app xo true p1.2 (updS C app yo p1.1 st sy) = updS C app yo p1.1 (St.put ⟨st.slots,H⟩ xo.dst u) (updS C app xo true st sy):=by
              cases app with
              | false => rfl
              | true =>
                obtain ⟨g,g1,g2,g4,g3⟩:=keepS_syncs (hP.k rfl) p1.1
                rw [g3,g3]
                show syncs C xo p1.2 _ = addO yo.dst g (syncs C xo st sy)
                rw [fr_syncs hx,fr_syncs hx,hout.2]
                refine sync_comm hP.s.d2 (fun t ht => g1 t fun hm => isDstOf_false hP.s.d3 t (by simp [rdS,hm]) ht) g2 (happ g g4 rfl) (fun t ht => ?_) hh1
                rw [e1]; exact gt_put ht
            rw [this] at h
            exact h
theorem runD_take:∀ (p:List (Nat × Oper)) {x:Nat × Oper} {s:List (Nat × Oper)} {sy:Sy} {st:St},(∀ q ∈ p,ordered2 ops q.1 x.2 = false ∧ (two = true → isAlloc q.2.op = true → isAlloc x.2.op = false)) → x.2 ∈ ops → Num C ops (p ++ x :: s) →
    runD C ops app two kp k (p ++ x :: s) sy st = some r → stepK C ops app kp x.2 sy st (fun sy' st' => runD C ops app two kp k (p ++ s) sy' st') = some r:=by
  intro p
  induction p with
  | nil =>
    intro x s sy st _ _ _ h
    obtain ⟨n,o⟩:=x
    simp only [List.nil_append,runD] at h
    rw [bif_some] at h
    exact h.2
  | cons y p ih =>
    intro x s sy st hord hmem hnum h
    have hh:=h
    obtain ⟨n,yo⟩:=y
    simp only [List.cons_append,runD] at h
    rw [bif_some] at h
    obtain ⟨hb,h⟩:=h
    simp only [Bool.and_eq_true] at hb
    obtain ⟨⟨hdown,hdyn⟩,hturn⟩:=hb
    have hall:=dynAll_spec.1 hdyn
    have hsub:∀ q ∈ p ++ s,q ∈ p ++ x :: s:=by
      intro q hq
      simp only [List.mem_append,List.mem_cons] at hq ⊢
      rcases hq with hq | hq
      · exact .inl hq
      · exact .inr (.inr hq)
    have hsw:swapB C ops app yo x.2 st = true ∨ swapF C ops app yo x.2 st = true ∨ swapG C ops app yo x.2 sy st = true:=by
      have ho:=hord (n,yo) (List.mem_cons_self ..)
      rcases hall x (by simp) with h1 | ⟨h1,h2,h3⟩ | h1
      · rw [ho.1] at h1; simp at h1
      · rw [ho.2 h1 h2] at h3; simp at h3
      · exact h1
    have hih:=fun {sy1:Sy} {st1:St} => ih (x:=x) (s:=s) (sy:=sy1) (st:=st1) (fun q hq => hord q (List.mem_cons_of_mem _ hq)) hmem hnum.tail
    rcases hsw with hsw | hsw | hsw
    · -- two plain operations
      have hokx:okOp C x.2.op = true ∧ okOp C yo.op = true:=by
        have:=swapB_iff.1 hsw
        rcases this.2 with ⟨hV,_,_,hcond⟩ | ⟨hV,_,hcond⟩
        · exact ⟨condA_ok hcond,okV hV⟩
        · exact ⟨okV (.inl hV),(condB_ok (C:=C) hcond).1⟩
      obtain ⟨hokx,hoky⟩:=hokx
      rw [stepK_exec hoky] at h
      cases hy:exec C ops yo st with
      | none => rw [hy] at h; simp at h
      | some p1 =>
        rw [hy] at h
        simp only [Option.bind_some] at h
        have h:=hih h
        rw [stepK_exec hokx] at h
        cases hx:exec C ops x.2 p1.2 with
        | none => rw [hx] at h; simp at h
        | some p2 =>
          rw [hx] at h
          simp only [Option.bind_some] at h
          obtain ⟨q1,e1,e2⟩:=exec_swap hsw hy hx
          rw [stepK_exec hokx,e1]
          simp only [Option.bind_some,List.cons_append,runD]
          rw [bif_some]
          refine ⟨?_,?_⟩
          · simp only [Bool.and_eq_true]
            refine ⟨⟨hdown,dynAll_spec.2 fun q hq => ?_⟩,?_⟩
            · rcases hall q (hsub q hq) with h1 | h1 | h1 | h1 | h1
              · exact .inl h1
              · exact .inr (.inl h1)
              · exact .inr (.inr (.inl (swap_stable hsw e1 hmem h1)))
              · refine .inr (.inr (.inr (.inl ?_)))
                rcases swapF_iff.1 h1 with ⟨k1,k2,k3,k4⟩ | ⟨k1,_⟩
                · refine swapF_iff.2 (.inl ⟨k1,k2,?_,k4⟩)
                  obtain ⟨hs,_⟩:=swap_same hsw e1
                  rw [calmI_same fun t ht => hs t (by simp [rdS,ht])]; exact k3
                · rw [ok_notFr hoky] at k1; simp at k1
              · obtain ⟨_,_,ha,_⟩:=swapG_inv h1
                rw [app_notOk ha] at hoky; simp at hoky
            · unfold turnB; rw [ok_notFr hoky]; rfl
          · rw [stepK_exec hoky,e2]
            simp only [Option.bind_some]
            rw [← updS_comm hsw p1.1 p2.1 sy p1.2 st q1 st]; exact h
    · have hnum' : (∀ q ∈ (n,yo) :: (p ++ x :: s),q ∈ numbered 0 ops) ∧ ((n,yo) :: (p ++ x :: s)).Pairwise (fun q q' => q.1 < q'.1) ∧ (numbered 0 ops).Pairwise (fun q q' => q.1 < q'.1):=by
        rcases hnum with hn | hn
        · exfalso
          rcases swapF_iff.1 hsw with ⟨k1,_⟩ | ⟨k1,_⟩
          · rw [hn x (by simp)] at k1; simp at k1
          · rw [hn (n,yo) (by simp)] at k1; simp at k1
        · exact hn
      obtain ⟨hin,hsorted,hsortN⟩:=hnum'
      have hlt:n < x.1:=by
        have:=(List.pairwise_cons.1 hsorted).1 x (by simp)
        exact this
      rcases swapF_iff.1 hsw with ⟨hx,hfree,hcalm,hP⟩ | ⟨hyf,hquiet,hnd,hgo,hP⟩
      · -- a free operation, a call behind it
        have hoky:=freeA_ok (o:=yo) hfree
        rw [stepK_exec hoky] at h
        cases hy:exec C ops yo st with
        | none => rw [hy] at h; simp at h
        | some p1 =>
          rw [hy] at h
          simp only [Option.bind_some] at h
          have h:=hih h
          obtain ⟨stx,k1,k2,k3,k4⟩:=back_fact hx ((n,yo) :: p) (s:=s) (sy:=sy) (st:=st) hord hh
          obtain ⟨pre,l,hsp⟩:=numbered_split (hin (n,yo) (by simp))
          have hbk:Back app x.2 stx yo ((n,yo) :: l):=by
            unfold turnB at k1
            rw [hx,hsp] at k1
            simp only [cond_true] at k1
            exact backAll_get k1 hlt (hord (n,yo) (by simp)).1
          have hlater:∀ q ∈ (n,yo) :: p,q ∈ (n,yo) :: l:=by
            intro q hq
            rcases List.mem_cons.1 hq with rfl | hq
            · simp
            · have hqn:=hin q (by simp [hq])
              have hlt2:=(List.pairwise_cons.1 hsorted).1 q (by simp [hq])
              rw [hsp] at hqn hsortN
              rcases List.mem_append.1 hqn with hq2 | hq2
              · have:=(List.pairwise_append.1 hsortN).2.2 q hq2 (n,yo) (by simp)
                simp at this hlt2; omega
              · exact hq2
          refine swap_free_call (n:=n) (m:=x.1) hx hfree hcalm hP hy ⟨stx,_,hbk,(frOut_ext (C:=C) hx (agree_of fun t ht => k4 t (by simp [rdS,ht])) k2).2,k2,fun s hs => k3 s fun q hq => isDstN_false hs q (hlater q hq)⟩ h ?_
          intro sy1 q1 v e1 hrd hds hlen hex hrun
          show runD C ops app two kp k ((n,yo) :: (p ++ s)) sy1 q1 = some r
          simp only [runD]
          rw [bif_some]
          refine ⟨?_,?_⟩
          · simp only [Bool.and_eq_true]
            refine ⟨⟨hdown,dynAll_spec.2 fun q hq => ?_⟩,?_⟩
            · rcases hall q (hsub q hq) with h1 | h1 | h1 | h1 | h1
              · exact .inl h1
              · exact .inr (.inl h1)
              · refine .inr (.inr (.inl (swapB_stab hrd (fun s hs => hds s hs ?_) hlen h1)))
                exact isDst_mem hs x.2 hmem
              · refine .inr (.inr (.inr (.inl ?_)))
                rcases swapF_iff.1 h1 with ⟨k1,k2,k3,k4⟩ | ⟨k1,_⟩
                · refine swapF_iff.2 (.inl ⟨k1,k2,?_,k4⟩)
                  rw [calmI_same fun t ht => hrd t (by simp [rdS,ht])]; exact k3
                · rw [ok_notFr hoky] at k1; simp at k1
              · obtain ⟨_,_,ha,_⟩:=swapG_inv h1
                rw [app_notOk ha] at hoky; simp at hoky
            · unfold turnB; rw [ok_notFr hoky]; rfl
          · rw [stepK_exec hoky,hex]
            exact hrun
      · -- a call, a quiet operation behind it
        have hokx:okOp C x.2.op = true:=okV (.inl (quiet_sure hquiet))
        have hgoes:(exec C ops x.2 st).isSome = true:=by rw [← goes_exec hokx]; exact hgo
        obtain ⟨q,hq⟩:=Option.isSome_iff_exists.1 hgoes
        obtain ⟨v,e1,e2⟩:=sureExec_quiet hquiet hq
        rw [stepK_exec hokx,hq]
        simp only [Option.bind_some,List.cons_append,runD]
        rw [bif_some]
        have hsl:∀ t,x.2.dst ≠ some t → gt PV.undef q.2.slots t = gt .undef st.slots t:=fun t ht => by rw [e1]; exact gt_put ht
        have hhq:q.2.heap = st.heap:=by rw [e1,put_heap]
        have hrdy:∀ t ∈ rdS ops yo,gt PV.undef q.2.slots t = gt .undef st.slots t:=fun t ht => hsl t (isDstOf_false hP.s.d3 t ht)
        refine ⟨?_,?_⟩
        · simp only [Bool.and_eq_true]
          refine ⟨⟨hdown,dynAll_spec.2 fun z hz => ?_⟩,turnB_stab (hin x (by simp)) hsortN hlt hyf hsl hhq hrdy hturn⟩
          rcases hall z (hsub z hz) with h1 | h1 | h1 | h1 | h1
          · exact .inl h1
          · exact .inr (.inl h1)
          · rw [(swapB_notFr h1).1] at hyf; simp at hyf
          rotate_left
          · obtain ⟨_,_,ha,_⟩:=swapG_inv h1
            rw [app_notFr ha] at hyf; simp at hyf
          · refine .inr (.inr (.inr (.inl ?_)))
            rcases swapF_iff.1 h1 with ⟨_,k2,_⟩ | ⟨k1,k2,k3,k4,k5⟩
            · have:=freeA_ok (o:=yo) k2
              rw [fr_notOk hyf] at this; simp at this
            · refine swapF_iff.2 (.inr ⟨k1,k2,k3,?_,k5⟩)
              have hokz:okOp C z.2.op = true:=okV (.inl (quiet_sure k2))
              rw [goes_exec hokz] at k4 ⊢
              obtain ⟨qz,hqz⟩:=Option.isSome_iff_exists.1 k4
              obtain ⟨vz,_,ez⟩:=sureExec_quiet k2 hqz
              rw [ez q.2 fun t ht => hsl t (isDst_mem (noDst_spec k3 ht) x.2 hmem)]
              rfl
        · have hgd:gd ops yo q.2 = gd ops yo st:=gd_of hrdy
          have hout:=(frOut_ext (C:=C) hyf (agree_of fun t ht => hrdy t (by simp [rdS,ht])) hhq)
          rw [stepK_fr hyf] at h ⊢
          rw [hgd]
          cases hg:gd ops yo st with
          | none => rw [hg] at h; simp at h
          | some g =>
            rw [hg] at h
            cases g with
            | false =>
              dsimp only at h ⊢
              have h:=hih h
              rw [stepK_exec hokx,e2 _ (fun t ht => gt_put (isDstOf_false hP.s.d1 t ht))] at h
              simp only [Option.bind_some] at h
              have hst:(st.put yo.dst .skp).put x.2.dst v = q.2.put yo.dst .skp:=by rw [e1]; exact put_put_comm hP.s.d2
              rw [hst] at h
              have:updS C app x.2 q.1 (st.put yo.dst .skp) (updS C app yo false st sy) = updS C app yo false q.2 (updS C app x.2 q.1 st sy):=by
                cases app with
                | false => rfl
                | true =>
                  obtain ⟨g,g1,g2,_,g3⟩:=keepS_syncs (hP.k rfl) q.1
                  rw [g3,g3,updS_false,updS_false]
                  exact addO_comm (sameDst_symm hP.s.d2) (fun t ht => g1 t fun hm => isDstOf_false hP.s.d1 t (by simp [rdS,hm]) ht) fun t ht => rfl
              rw [this] at h
              exact h
            | true =>
              dsimp only at h ⊢
              rw [hout.1]
              cases ho:frOut C yo st with
              | none => rw [ho] at h; simp at h
              | some p' =>
                obtain ⟨out,H⟩:=p'
                rw [ho] at h
                cases out with
                | pan u => exact h
                | ret u =>
                  dsimp only at h ⊢
                  have h:=hih h
                  rw [stepK_exec hokx,e2 _ (fun t ht => gt_put (st:=⟨st.slots,H⟩) (isDstOf_false hP.s.d1 t ht))] at h
                  simp only [Option.bind_some] at h
                  have hst:(St.put ⟨st.slots,H⟩ yo.dst u).put x.2.dst v = St.put ⟨q.2.slots,H⟩ yo.dst u:=by
                    rw [e1]; exact (put_heap2 (sameDst_symm hP.s.d2)).symm
                  rw [hst] at h
                  have:updS C app x.2 q.1 (St.put ⟨st.slots,H⟩ yo.dst u) (updS C app yo true st sy) = updS C app yo true q.2 (updS C app x.2 q.1 st sy):=by
                    cases app with
                    | false => rfl
                    | true =>
                      obtain ⟨g,g1,g2,g4,g3⟩:=keepS_syncs (hP.k rfl) q.1
                      rw [g3,g3]
                      show addO x.2.dst g (syncs C yo st sy) = syncs C yo q.2 _
                      rw [fr_syncs hyf,fr_syncs hyf,hout.2]
                      refine (sync_comm (sameDst_symm hP.s.d2) (fun t ht => g1 t fun hm => isDstOf_false hP.s.d1 t (by simp [rdS,hm]) ht) g2 (fun a ha => ?_) hsl hhq).symm
                      obtain ⟨_,T,hop⟩:=g4 a ha
                      exact absurd hop (quiet_notLoad hquiet)
                  rw [this] at h
                  exact h
    · -- an append, a quiet operation behind it
      obtain ⟨ta,hA,hsrc,hquiet⟩:=swapG_inv hsw
      have hokx:okOp C x.2.op = true:=okV (.inl (quiet_sure hquiet))
      have hgoes:(exec C ops x.2 st).isSome = true:=by rw [← goes_exec hokx]; exact hA.go
      obtain ⟨q,hq⟩:=Option.isSome_iff_exists.1 hgoes
      obtain ⟨v,e1,e2⟩:=sureExec_quiet hquiet hq
      have hP:=hA.p
      have happ:=hA.ap
      subst happ
      obtain ⟨xg,rg1,rg2,_,rg3⟩:=keepS_syncs (hP.k rfl) q.1
      have hsl:∀ t,x.2.dst ≠ some t → gt PV.undef q.2.slots t = gt .undef st.slots t:=fun t ht => by rw [e1]; exact gt_put ht
      have hrdy:∀ t ∈ rdS ops yo,gt PV.undef q.2.slots t = gt .undef st.slots t:=fun t ht => hsl t (isDstOf_false hP.s.d3 t ht)
      have hta:x.2.dst ≠ some ta:=by
        obtain ⟨xx,args,ats,hop,hl⟩:=appSrc_inv hsrc
        refine isDstOf_false hP.s.d3 ta ?_
        simp only [rdS,List.mem_append]
        refine .inl (tmpsL_mem ?_)
        rw [hop]
        simp [Op.operands,Call.operands]
        have:(Operand.tmp ta) ∈ args.toList:=by rw [hl]; simp
        simpa using this
      have hsy:updS C true x.2 q.1 st sy ta = sy ta:=by
        rw [rg3]
        cases hd:x.2.dst with
        | none => rfl
        | some d =>
          show addS d xg sy ta = sy ta
          unfold addS
          have hne:Nat.beq ta d = false:=by
            cases hb:Nat.beq ta d with
            | false => rfl
            | true => exact absurd (by rw [hd,Nat.eq_of_beq_eq_true hb]) hta
          rw [hne]
          simp only [cond_false]
          unfold Org.keep
          have:(sy ta).uses d = false:=by
            cases hs:sy ta with
            | self => rfl
            | slot w =>
              cases hb:Org.uses d (.slot w) with
              | false => rfl
              | true => exact absurd (by rw [hd]; congr 1; exact (Nat.eq_of_beq_eq_true hb).symm) (hA.og.1 w hs).1
            | cell a =>
              cases hb:Org.uses d (.cell a) with
              | false => rfl
              | true => exact absurd (by rw [hd]; congr 1; exact (Nat.eq_of_beq_eq_true hb).symm) (hA.og.2 a hs)
          rw [this]; rfl
      rw [stepK_exec hokx,hq]
      simp only [Option.bind_some,List.cons_append,runD]
      rw [bif_some]
      refine ⟨?_,?_⟩
      · simp only [Bool.and_eq_true]
        refine ⟨⟨hdown,dynAll_spec.2 fun z hz => ?_⟩,by unfold turnB; rw [app_notFr hsrc]; rfl⟩
        rcases hall z (hsub z hz) with h1 | h1 | h1 | h1 | h1
        · exact .inl h1
        · exact .inr (.inl h1)
        · exfalso
          have:=swapB_iff.1 h1
          have hk:okOp C yo.op = true:=by
            rcases this.2 with ⟨hV,_,_,hcond⟩ | ⟨hV,_,hcond⟩
            · exact okV hV
            · exact (condB_ok (C:=C) hcond).1
          rw [app_notOk hsrc] at hk; simp at hk
        · exfalso
          rcases swapF_iff.1 h1 with ⟨_,k2,_⟩ | ⟨k1,_⟩
          · have:=freeA_ok (o:=yo) k2
            rw [app_notOk hsrc] at this; simp at this
          · rw [app_notFr hsrc] at k1; simp at k1
        · refine .inr (.inr (.inr (.inr ?_)))
          obtain ⟨tz,hz1,hz2,hz3⟩:=swapG_inv h1
          rw [hsrc] at hz2; simp at hz2; subst hz2
          refine swapG_mk (t:=ta) ⟨hz1.src,hz1.ap,hz1.nd,?_,hz1.p,hz1.nt,?_⟩ hz3
          · have hokz:okOp C z.2.op = true:=okV (.inl (quiet_sure hz3))
            have k4:=hz1.go
            rw [goes_exec hokz] at k4 ⊢
            obtain ⟨qz,hqz⟩:=Option.isSome_iff_exists.1 k4
            obtain ⟨vz,_,ez⟩:=sureExec_quiet hz3 hqz
            rw [ez q.2 fun t ht => hsl t (isDst_mem (noDst_spec hz1.nd ht) x.2 hmem)]
            rfl
          · rw [hsy]; exact hz1.og
      · have hgd:gd ops yo q.2 = gd ops yo st:=gd_of hrdy
        unfold stepK at h ⊢
        rw [guarded_gd] at h ⊢
        rw [hgd]
        cases hg:gd ops yo st with
        | none => rw [hg] at h; simp at h
        | some g =>
          rw [hg] at h
          cases g with
          | false =>
            dsimp only at h ⊢
            simp only [cond_true] at h ⊢
            have h:=hih h
            rw [stepK_exec hokx,e2 _ (fun t ht => gt_put (isDstOf_false hP.s.d1 t ht))] at h
            simp only [Option.bind_some] at h
            have hst:(st.put yo.dst .skp).put x.2.dst v = q.2.put yo.dst .skp:=by rw [e1]; exact put_put_comm hP.s.d2
            rw [hst] at h
            have:updS C true x.2 q.1 (st.put yo.dst .skp) (dropO yo.dst sy) = dropO yo.dst (updS C true x.2 q.1 st sy):=by
              have dd:∀ s:Sy,dropO yo.dst s = addO yo.dst .self s:=fun s => by cases yo.dst <;> rfl
              rw [rg3,rg3,dd,dd]
              exact addO_comm (sameDst_symm hP.s.d2) (fun t ht => rg1 t fun hm => isDstOf_false hP.s.d1 t (by simp [rdS,hm]) ht) fun t ht => rfl
            rw [this] at h
            exact h
          | true =>
            dsimp only at h ⊢
            simp only [cond_true] at h ⊢
            have no1:∀ (s:St) (y1:Sy),syncs C yo s y1 = noSy:=by
              obtain ⟨xx,args,ats,hop,hl⟩:=appSrc_inv hsrc
              intro s y1
              unfold syncs
              rw [hop]; rfl
            rw [app_pop hsrc] at h ⊢
            rw [no1] at h
            rw [show (fun st' => runD C ops true two kp k (p ++ s) (syncs C yo q.2 (updS C true x.2 q.1 st sy)) st') = fun st' => runD C ops true two kp k (p ++ s) noSy st' from by rw [no1]]
            have hput:appOut C yo (updS C true x.2 q.1 st sy) q.2 = (appOut C yo sy st).map fun s => s.put x.2.dst v:=by
              rw [e1]
              exact appOut_put hsrc hP.s.d3 (sameDst_symm hP.s.d2) hsy (fun w hw => (hA.og.1 w hw).1) (fun a ha => hA.og.2 a ha)
            rw [hput]
            cases ho:appOut C yo sy st with
            | none => rw [ho] at h; simp at h
            | some s1 =>
              rw [ho] at h
              simp only [Option.bind_some,Option.map_some] at h ⊢
              have h:=hih h
              have hs1:∀ t ∈ rdS ops x.2,gt PV.undef s1.slots t = gt .undef st.slots t:=fun t ht =>
                appOut_slot hsrc ho (isDstOf_false hP.s.d1 t ht) (fun e => hA.nt (e ▸ ht)) fun w hw e => (hA.og.1 w hw).2 (e ▸ ht)
              rw [stepK_exec hokx,e2 _ hs1] at h
              simp only [Option.bind_some] at h
              have:updS C true x.2 q.1 s1 noSy = noSy:=by
                cases q.1 with
                | false =>
                  show dropO x.2.dst noSy = noSy
                  cases x.2.dst with
                  | none => rfl
                  | some d => funext u; show dropS d noSy u = .self; unfold dropS noSy; cases Nat.beq u d <;> rfl
                | true =>
                  show syncs C x.2 s1 noSy = noSy
                  have:syncs C x.2 s1 noSy = dropO x.2.dst noSy:=by
                    unfold syncs
                    split
                    · rename_i e; rw [e] at hquiet; simp [quiet] at hquiet
                    · rename_i e; rw [e] at hquiet; simp [quiet] at hquiet
                    · rename_i e; rw [e] at hquiet; simp [quiet] at hquiet
                    · rw [hquiet]; rfl
                  rw [this]
                  cases x.2.dst with
                  | none => rfl
                  | some d => funext u; show dropS d noSy u = .self; unfold dropS noSy; cases Nat.beq u d <;> rfl
              rw [this] at h
              exact h
end
end Go.PS
end

section
namespace Go.PS
open Go.RowKit
section
variable {P:Program} {C:Ctx} {W0:World} {R:Type} {kp:DV → List PObj → Option R} {k:St → Option R} {r:R} {Q:Exit → Act → World → Prop} {app two:Bool} {arr:Array Oper}
theorem setL {l:Array Bool} {i j:Nat} {d:Bool} (hi:i < l.size):(l.setIfInBounds i true).getD j d = if j = i then true else l.getD j d:=by
  by_cases e:j = i
  · subst e; simp [hi]
  · simp [Ne.symm e,e]
structure Left (arr:Array Oper) (listed:Array Bool) (L:List (Nat × Oper)):Prop where
  size:listed.size = arr.size
  mem:∀ q ∈ L,arr[q.1]? = some q.2 ∧ listed.getD q.1 true = false
  all:∀ j o,arr[j]? = some o → listed.getD j true = false → (j,o) ∈ L
  sorted:L.Pairwise fun q q' => q.1 < q'.1
  closed:∀ j o,arr[j]? = some o → listed.getD j true = true → ∀ e ∈ o.after.toList,Region.binds .any e = true → listed.getD e.on false = true
theorem getD_lt {l:Array Bool} {j:Nat} (h:l.getD j false = true):j < l.size:=by
  by_cases hl:j < l.size
  · exact hl
  · simp [Array.getD,hl] at h
theorem getD_same {l:Array Bool} {j:Nat} (h:j < l.size) (d d' : Bool):l.getD j d = l.getD j d':=by simp [Array.getD,h]
theorem ready_iff {listed:Array Bool} {i:Nat}:i ∈ Region.ready .any arr listed ↔ i < arr.size ∧ listed.getD i true = false ∧ ∃ o,arr[i]? = some o ∧ ∀ e ∈ o.after.toList,Region.binds .any e = true → listed.getD e.on false = true:=by
  unfold Region.ready
  simp only [List.mem_filter,List.mem_range,Bool.and_eq_true,Bool.not_eq_true']
  constructor
  · rintro ⟨h1,h2,h3⟩
    refine ⟨h1,h2,arr[i],by simp [h1],?_⟩
    rw [Array.getElem?_eq_getElem h1] at h3
    simp only [Option.map_some,Option.getD_some,Array.all_eq_true_iff_forall_mem,Bool.or_eq_true,Bool.not_eq_true'] at h3
    intro e he hb
    rcases h3 e (by simpa using he) with h | h
    · rw [hb] at h; simp at h
    · exact h
  · rintro ⟨h1,h2,o,h3,h4⟩
    refine ⟨h1,h2,?_⟩
    rw [h3]
    simp only [Option.map_some,Option.getD_some,Array.all_eq_true_iff_forall_mem,Bool.or_eq_true,Bool.not_eq_true']
    intro e he
    cases hb:Region.binds .any e
    · exact .inl rfl
    · exact .inr (h4 e (by simpa using he) hb)
theorem Left.take {listed:Array Bool} {p s:List (Nat × Oper)} {i:Nat} {o:Oper} (h:Left arr listed (p ++ (i,o) :: s)) (hr:∀ e ∈ o.after.toList,Region.binds .any e = true → listed.getD e.on false = true) :
    Left arr (listed.setIfInBounds i true) (p ++ s):=by
  have hio:=h.mem (i,o) (by simp)
  have hi:i < listed.size:=by
    rw [h.size]
    exact (Array.getElem?_eq_some_iff.1 hio.1).1
  have hne:∀ q ∈ p ++ s,q.1 ≠ i:=by
    have:=h.sorted
    rw [List.pairwise_append,List.pairwise_cons] at this
    obtain ⟨_,⟨h2,_⟩,h3⟩:=this
    intro q hq
    rcases List.mem_append.1 hq with hq | hq
    · have:=h3 q hq (i,o) (by simp); simp at this; omega
    · have:=h2 q hq; simp at this; omega
  have hsub:∀ q ∈ p ++ s,q ∈ p ++ (i,o) :: s:=by
    intro q hq
    simp only [List.mem_append,List.mem_cons] at hq ⊢
    rcases hq with hq | hq
    · exact .inl hq
    · exact .inr (.inr hq)
  refine ⟨by simp [h.size],fun q hq => ?_,fun j o' hj hl => ?_,?_,fun j o' hj hl e he hb => ?_⟩
  · obtain ⟨h1,h2⟩:=h.mem q (hsub q hq)
    exact ⟨h1,by rw [setL hi,if_neg (hne q hq)]; exact h2⟩
  · rw [setL hi] at hl
    by_cases e:j = i
    · rw [if_pos e] at hl; simp at hl
    · rw [if_neg e] at hl
      have:=h.all j o' hj hl
      simp only [List.mem_append,List.mem_cons,Prod.mk.injEq] at this ⊢
      rcases this with h1 | ⟨h1,_⟩ | h1
      · exact .inl h1
      · exact absurd h1 e
      · exact .inr h1
  · have:=h.sorted
    rw [List.pairwise_append,List.pairwise_cons] at this
    rw [List.pairwise_append]
    exact ⟨this.1,this.2.1.2,fun a ha b hb => this.2.2 a ha b (List.mem_cons_of_mem _ hb)⟩
  · rw [setL hi]
    split
    · rfl
    · by_cases e' : j = i
      · subst e'
        have:o' = o:=by rw [hio.1] at hj; simp at hj; exact hj.symm
        subst this
        exact hr e he hb
      · rw [setL hi,if_neg e'] at hl
        exact h.closed j o' hj hl e he hb
theorem hasBit_or {a b i:Nat} (h:hasBit (Nat.lor a b) i = true):hasBit a i = true ∨ hasBit b i = true:=by
  have key:∀ m,hasBit m i = Nat.testBit m i:=by
    intro m
    rw [Nat.testBit_eq_decide_div_mod_eq]
    unfold hasBit
    cases hb:Nat.beq (m / 2 ^ i % 2) 1 with
    | true => simp [Nat.eq_of_beq_eq_true hb]
    | false =>
      simp only [Bool.false_eq,decide_eq_false_iff_not]
      intro e; rw [e] at hb; simp at hb
  rw [key] at h ⊢
  rw [key]
  have h2:Nat.testBit (a ||| b) i = true:=h
  rw [Nat.testBit_or] at h2
  simpa using h2
theorem hasBit_pow {n i:Nat} (h:hasBit (2 ^ n) i = true):n = i:=by
  have:Nat.testBit (2 ^ n) i = true:=by
    rw [Nat.testBit_eq_decide_div_mod_eq]
    unfold hasBit at h
    simpa using Nat.eq_of_beq_eq_true h
  rw [Nat.testBit_two_pow] at this
  simpa using this
theorem hasBit_zero (i:Nat):hasBit 0 i = false:=by
  unfold hasBit; rw [Nat.zero_div]; rfl
theorem ordered_false {listed:Array Bool} {L:List (Nat × Oper)} (h:Left arr listed L) {o:Oper} (hr:∀ e ∈ o.after.toList,Region.binds .any e = true → listed.getD e.on false = true) {q:Nat × Oper} (hq:q ∈ L):ordered2 arr.toList q.1 o = false:=by
  obtain ⟨hq1,hq2⟩:=h.mem q hq
  have hnot:listed.getD q.1 false ≠ true:=by
    intro ht
    rw [getD_same (getD_lt ht) false true,hq2] at ht
    simp at ht
  have one:∀ (acc:List Nat),(∀ j i:Nat,listed.getD j false = true → hasBit (gt 0 acc j) i = true → listed.getD i false = true) → ∀ (l:List Edge),(∀ e ∈ l,Region.binds .any e = true → listed.getD e.on false = true) → ∀ i,hasBit (ancE acc l) i = true → listed.getD i false = true:=by
    intro acc hacc l
    induction l with
    | nil => intro _ i hi; simp [ancE,hasBit_zero] at hi
    | cons e l ih =>
      intro hl i hi
      simp only [ancE] at hi
      cases hb:Region.binds .any e with
      | false => rw [hb] at hi; exact ih (fun e' he' => hl e' (List.mem_cons_of_mem _ he')) i (by simpa using hi)
      | true =>
        rw [hb] at hi
        simp only [cond_true] at hi
        have hon:=hl e (List.mem_cons_self ..) hb
        rcases hasBit_or hi with hi | hi
        · rcases hasBit_or hi with hi | hi
          · rw [← hasBit_pow hi]; exact hon
          · exact hacc e.on i hon hi
        · exact ih (fun e' he' => hl e' (List.mem_cons_of_mem _ he')) i hi
  have all:∀ (l:List Oper) (acc:List Nat),(∀ j:Nat,l[j]? = arr[acc.length + j]?) → (∀ j i:Nat,listed.getD j false = true → hasBit (gt 0 acc j) i = true → listed.getD i false = true) →
      ∀ j i:Nat,listed.getD j false = true → hasBit (gt 0 (ancs l acc) j) i = true → listed.getD i false = true:=by
    intro l
    induction l with
    | nil => intro acc _ hacc; exact hacc
    | cons c l ih =>
      intro acc hl hacc
      simp only [ancs]
      refine ih (acc ++ [ancE acc c.after.toList]) (fun j => ?_) (fun j i hj hi => ?_)
      · have:=hl (j + 1)
        simp only [List.getElem?_cons_succ] at this
        rw [this]; congr 1; simp; omega
      · rw [gt_eq] at hi
        by_cases hlt:j < acc.length
        · rw [List.getElem?_append_left hlt] at hi
          exact hacc j i hj (by rw [gt_eq]; exact hi)
        · rw [List.getElem?_append_right (by omega)] at hi
          by_cases e:j = acc.length
          · subst e
            simp only [Nat.sub_self,List.getElem?_cons_zero,Option.getD_some] at hi
            have hc:arr[acc.length]? = some c:=by have:=hl 0; simpa using this.symm
            refine one acc hacc c.after.toList (fun e he hb => h.closed acc.length c hc (by rw [getD_same (getD_lt hj) true false]; exact hj) e he hb) i hi
          · rw [List.getElem?_eq_none (by simp; omega)] at hi
            simp [hasBit_zero] at hi
  unfold ordered2
  simp only [Bool.or_eq_false_iff]
  constructor
  · unfold ordered1
    rw [List.any_eq_false]
    intro e he hb
    simp only [Bool.and_eq_true] at hb
    have:=hr e he hb.1
    rw [Nat.eq_of_beq_eq_true hb.2] at this
    exact hnot this
  · cases hb:hasBit (ancE (ancs arr.toList []) o.after.toList) q.1 with
    | false => rfl
    | true => exact absurd (one _ (all arr.toList [] (fun j => by simp) (fun j i _ hi => by simp [gt,hasBit_zero] at hi)) _ hr _ hb) hnot
theorem without_eq (i:Nat):∀ l:List (Nat × Oper),(∀ q ∈ l,q.1 ≠ i) → without i l = l:=by
  intro l
  induction l with
  | nil => intro _; rfl
  | cons q l ih =>
    intro h
    have:Nat.beq q.1 i = false:=by
      cases hb:Nat.beq q.1 i
      · rfl
      · exact absurd (Nat.eq_of_beq_eq_true hb) (h q (by simp))
    simp only [without,this,cond_false,ih fun q hq => h q (List.mem_cons_of_mem _ hq)]
theorem without_append (i:Nat):∀ l m:List (Nat × Oper),without i (l ++ m) = without i l ++ without i m:=by
  intro l m
  induction l with
  | nil => rfl
  | cons q l ih => simp only [List.cons_append,without,ih]; cases Nat.beq q.1 i <;> rfl
theorem without_mid {i:Nat} {o:Oper} {p s:List (Nat × Oper)} (h:∀ q ∈ p ++ s,q.1 ≠ i):without i (p ++ (i,o) :: s) = p ++ s:=by
  rw [without_append,without_eq i p fun q hq => h q (by simp [hq])]
  simp only [without,Nat.beq_refl,cond_true]
  rw [without_eq i s fun q hq => h q (by simp [hq])]
theorem without_mem {i:Nat} {q:Nat × Oper}:∀ {l:List (Nat × Oper)},q ∈ without i l ↔ q ∈ l ∧ q.1 ≠ i:=by
  intro l
  induction l with
  | nil => simp [without]
  | cons x l ih =>
    simp only [without]
    cases hb:Nat.beq x.1 i
    · simp only [cond_false,List.mem_cons,ih]
      constructor
      · rintro (rfl | h)
        · exact ⟨.inl rfl,by rintro e; rw [e] at hb; simp at hb⟩
        · exact ⟨.inr h.1,h.2⟩
      · rintro ⟨rfl | h,h2⟩
        · exact .inl rfl
        · exact .inr ⟨h,h2⟩
    · simp only [cond_true,List.mem_cons,ih]
      have:=Nat.eq_of_beq_eq_true hb
      constructor
      · rintro ⟨h1,h2⟩; exact ⟨.inr h1,h2⟩
      · rintro ⟨rfl | h,h2⟩
        · exact absurd this h2
        · exact ⟨h,h2⟩
theorem before_mem {i:Nat} {x q:Nat × Oper}:∀ {l:List (Nat × Oper)},q ∈ before i x l → q = x ∨ q ∈ l:=by
  intro l
  induction l with
  | nil => simp [before]
  | cons y l ih =>
    simp only [before]
    cases Nat.beq y.1 i
    · simp only [cond_false,List.mem_cons]
      rintro (h | h)
      · exact .inr (.inl h)
      · rcases ih h with h | h
        · exact .inl h
        · exact .inr (.inr h)
    · simp only [cond_true,List.mem_cons]
      rintro (h | h | h)
      · exact .inl h
      · exact .inr (.inl h)
      · rcases ih h with h | h
        · exact .inl h
        · exact .inr (.inr h)
theorem without_comm (i j:Nat):∀ l:List (Nat × Oper),without i (without j l) = without j (without i l):=by
  intro l
  induction l with
  | nil => rfl
  | cons q l ih =>
    simp only [without]
    cases h1:Nat.beq q.1 j <;> cases h2:Nat.beq q.1 i <;> simp only [cond_true,cond_false,without,h1,h2,ih]
theorem without_before {i a:Nat} {x:Nat × Oper} (h1:x.1 ≠ i) (h2:a ≠ i):∀ l:List (Nat × Oper),without i (before a x l) = before a x (without i l):=by
  intro l
  have hx:Nat.beq x.1 i = false:=by
    cases hb:Nat.beq x.1 i
    · rfl
    · exact absurd (Nat.eq_of_beq_eq_true hb) h1
  induction l with
  | nil => rfl
  | cons q l ih =>
    simp only [before,without]
    cases ha:Nat.beq q.1 a <;> cases hi:Nat.beq q.1 i
    · simp only [cond_false,without,hi,before,ha,ih]
    · simp only [cond_false,cond_true,without,hi,ih]
    · simp only [cond_false,cond_true,without,hi,hx,before,ha,ih]
    · have e1:=Nat.eq_of_beq_eq_true ha
      have e2:=Nat.eq_of_beq_eq_true hi
      exact absurd (e1.symm.trans e2) h2
theorem allocs_without_ne {i:Nat}:∀ {l:List (Nat × Oper)},(∀ q ∈ l,q.1 = i → isAlloc q.2.op = false) → allocs (without i l) = allocs l:=by
  intro l
  induction l with
  | nil => intro _; rfl
  | cons q l ih =>
    intro h
    have ih:=ih fun q hq => h q (List.mem_cons_of_mem _ hq)
    simp only [without,allocs]
    cases hb:Nat.beq q.1 i
    · simp only [cond_false,allocs,ih]
    · rw [h q (by simp) (Nat.eq_of_beq_eq_true hb)]
      simp only [cond_true,cond_false,ih]
theorem allocs_append (l m:List (Nat × Oper)):allocs (l ++ m) = allocs l ++ allocs m:=by
  induction l with
  | nil => rfl
  | cons q l ih => simp only [List.cons_append,allocs,ih]; cases isAlloc q.2.op <;> rfl
theorem allocs_mem {q:Nat × Oper}:∀ {l:List (Nat × Oper)},q ∈ allocs l ↔ q ∈ l ∧ isAlloc q.2.op = true:=by
  intro l
  induction l with
  | nil => simp [allocs]
  | cons x l ih =>
    simp only [allocs]
    cases hb:isAlloc x.2.op
    · simp only [cond_false,ih,List.mem_cons]
      constructor
      · rintro ⟨h1,h2⟩; exact ⟨.inr h1,h2⟩
      · rintro ⟨rfl | h1,h2⟩
        · rw [hb] at h2; simp at h2
        · exact ⟨h1,h2⟩
    · simp only [cond_true,List.mem_cons,ih]
      constructor
      · rintro (rfl | h)
        · exact ⟨.inl rfl,hb⟩
        · exact ⟨.inr h.1,h.2⟩
      · rintro ⟨rfl | h1,h2⟩
        · exact .inl rfl
        · exact .inr ⟨h1,h2⟩
theorem allOk_mem:∀ {l:List Oper},allOk C l = true → ∀ o ∈ l,okOp C o.op = true:=by
  intro l
  induction l with
  | nil => intro _ o ho; simp at ho
  | cons x l ih =>
    intro h o ho
    simp only [allOk,Bool.and_eq_true] at h
    rcases List.mem_cons.1 ho with rfl | ho
    · exact h.1
    · exact ih h.2 o ho
theorem numbered_mem:∀ (l:List Oper) (n j:Nat) (o:Oper),l[j]? = some o → (n + j,o) ∈ numbered n l:=by
  intro l
  induction l with
  | nil => intro n j o h; simp at h
  | cons a l ih =>
    intro n j o h
    cases j with
    | zero => simp at h; subst h; simp [numbered]
    | succ j =>
      simp only [numbered,List.mem_cons]
      refine .inr ?_
      have:=ih (n + 1) j o (by simpa using h)
      rwa [show n + (j + 1) = n + 1 + j by omega]
theorem numbered_ge:∀ (l:List Oper) (n:Nat),(∀ q ∈ numbered n l,n ≤ q.1) ∧ (numbered n l).Pairwise (fun q q' => q.1 < q'.1):=by
  intro l
  induction l with
  | nil => intro n; simp [numbered]
  | cons a l ih =>
    intro n
    obtain ⟨h1,h2⟩:=ih (n + 1)
    refine ⟨?_,?_⟩
    · intro q hq
      rcases List.mem_cons.1 hq with rfl | hq
      · exact Nat.le_refl _
      · have:=h1 q hq; omega
    · refine List.pairwise_cons.2 ⟨fun q hq => ?_,h2⟩
      have:=h1 q hq; simp; omega
theorem num_left {listed:Array Bool} {L:List (Nat × Oper)} (hL:Left arr listed L):Num C arr.toList L:=by
  refine .inr ⟨fun q hq => ?_,hL.sorted,(numbered_ge _ _).2⟩
  obtain ⟨j,o⟩:=q
  have h1:=(hL.mem _ hq).1
  have:=numbered_mem arr.toList 0 j o (by simpa using h1)
  simpa using this
theorem Left.in_ops {listed:Array Bool} {L:List (Nat × Oper)} (hL:Left arr listed L) {q:Nat × Oper} (hq:q ∈ L):q.2 ∈ arr.toList:=by
  have:=Array.mem_of_getElem? (hL.mem _ hq).1
  simpa using this
theorem num_ok {ops:List Oper} {L:List (Nat × Oper)} (h:allOk C ops = true) (hL:∀ q ∈ L,q.2 ∈ ops):Num C ops L :=
  .inl fun q hq => ok_notFr (allOk_mem h _ (hL q hq))
def Alt (C:Ctx) (arr:Array Oper) (app two:Bool) (kp:DV → List PObj → Option R) (k:St → Option R) (r:R) (L:List (Nat × Oper)) (sy:Sy) (st:St):Prop :=
  two = true → allOk C arr.toList = true ∧ (allocs L).length ≤ 2 ∧ ∀ L2,altOrder L = some L2 → runD C arr.toList app two kp k L2 sy st = some r
open Classical in
theorem take_both {listed:Array Bool} {L:List (Nat × Oper)} {i:Nat} {oi:Oper} {sy:Sy} {st:St} (hL:Left arr listed L) (hm:(i,oi) ∈ L) (hr:∀ e ∈ oi.after.toList,Region.binds .any e = true → listed.getD e.on false = true)
    (h:runD C arr.toList app two kp k L sy st = some r) (h2:Alt C arr app two kp k r L sy st) :
    stepK C arr.toList app kp oi sy st (fun sy' st' => if Alt C arr app two kp k r (without i L) sy' st' then runD C arr.toList app two kp k (without i L) sy' st' else none) = some r:=by
  have hmem:oi ∈ arr.toList:=by
    have:=Array.mem_of_getElem? (hL.mem _ hm).1
    simpa using this
  have hidx:∀ q ∈ L,q.1 = i → q = (i,oi):=by
    intro q hq e
    have h1:=(hL.mem q hq).1
    have h3:=(hL.mem _ hm).1
    obtain ⟨j,o⟩:=q
    simp only at e; subst e
    simp only at h1 h3
    rw [h1] at h3; simp at h3; rw [h3]
  obtain ⟨p,s,hps⟩:=List.append_of_mem hm
  have hL':=hL
  rw [hps] at hL'
  have hne:∀ q ∈ p ++ s,q.1 ≠ i:=by
    have:=hL'.sorted
    rw [List.pairwise_append,List.pairwise_cons] at this
    obtain ⟨_,⟨h2,_⟩,h3⟩:=this
    intro q hq
    rcases List.mem_append.1 hq with hq | hq
    · have:=h3 q hq (i,oi) (by simp); simp at this; omega
    · have:=h2 q hq; simp at this; omega
  have hwo:without i L = p ++ s:=by rw [hps]; exact without_mid hne
  cases htwo:two with
  | false =>
    subst htwo
    have htk:=runD_take (two:=false) p (x:=(i,oi)) (s:=s) (fun q hq => ⟨ordered_false hL hr (by rw [hps]; simp [hq]),fun h => by cases h⟩) hmem (num_left hL' ) (by rw [← hps]; exact h)
    have:(fun sy' st' => if Alt C arr app false kp k r (without i L) sy' st' then runD C arr.toList app false kp k (without i L) sy' st' else none) = fun sy' st' => runD C arr.toList app false kp k (p ++ s) sy' st':=by
      funext sy' st'
      rw [if_pos (by intro h; simp at h),hwo]
    rw [this]; exact htk
  | true =>
    subst htwo
    obtain ⟨hok,hlen,halt⟩:=h2 rfl
    have hoki:=allOk_mem hok oi hmem
    by_cases hal:∃ q ∈ p,isAlloc q.2.op = true ∧ isAlloc oi.op = true
    · -- the second one first
      obtain ⟨q,hq,hq1,hq2⟩:=hal
      have hA:allocs L = allocs p ++ (i,oi) :: allocs s:=by
        rw [hps,allocs_append]; simp only [allocs,hq2,cond_true]
      have hp1:allocs p ≠ []:=by
        intro e
        have:=allocs_mem.2 ⟨hq,hq1⟩
        rw [e] at this; simp at this
      obtain ⟨a,la,hpa⟩:=List.exists_cons_of_ne_nil hp1
      have hlen' : la = [] ∧ allocs s = []:=by
        rw [hA,hpa] at hlen
        simp at hlen
        exact ⟨List.length_eq_zero_iff.1 (by omega),List.length_eq_zero_iff.1 (by omega)⟩
      obtain ⟨rfl,hs0⟩:=hlen'
      have hA2:allocs L = [a,(i,oi)]:=by rw [hA,hpa,hs0]; rfl
      have hL2:altOrder L = some (before a.1 (i,oi) (without i L)):=by unfold altOrder; rw [hA2]
      have hrun:=halt _ hL2
      rw [hwo] at hrun
      have ha:a ∈ p:=(allocs_mem.1 (by rw [hpa]; simp:a ∈ allocs p)).1
      -- where it lands
      obtain ⟨p1,p2,hp⟩:=List.append_of_mem ha
      have hap1:∀ q ∈ p1,isAlloc q.2.op = false:=by
        intro q hq
        cases hb:isAlloc q.2.op with
        | false => rfl
        | true =>
          have:=hpa
          rw [hp,allocs_append] at this
          have hmq:=allocs_mem.2 ⟨hq,hb⟩
          have haa:isAlloc a.2.op = true:=(allocs_mem.1 (by rw [hpa]; simp:a ∈ allocs p)).2
          simp only [allocs,haa,cond_true] at this
          have hl:=congrArg List.length this
          simp at hl
          have:allocs p1 = []:=List.length_eq_zero_iff.1 (by omega)
          rw [this] at hmq; simp at hmq
      have hsorted:=hL'.sorted
      have hbefore:before a.1 (i,oi) (p ++ s) = p1 ++ (i,oi) :: a :: (p2 ++ s):=by
        have hstep:∀ l:List (Nat × Oper),(∀ q ∈ l,q.1 ≠ a.1) → ∀ m,before a.1 (i,oi) (l ++ m) = l ++ before a.1 (i,oi) m:=by
          intro l
          induction l with
          | nil => intro _ m; rfl
          | cons q l ih =>
            intro h m
            have:Nat.beq q.1 a.1 = false:=by
              cases hb:Nat.beq q.1 a.1
              · rfl
              · exact absurd (Nat.eq_of_beq_eq_true hb) (h q (by simp))
            simp only [List.cons_append,before,this,cond_false,ih fun q hq => h q (List.mem_cons_of_mem _ hq)]
        have hid:∀ l:List (Nat × Oper),(∀ q ∈ l,q.1 ≠ a.1) → before a.1 (i,oi) l = l:=by
          intro l h
          have:=hstep l h []
          simpa [before] using this
        have hps2:(p1 ++ a :: (p2 ++ (i,oi) :: s)).Pairwise fun q q' => q.1 < q'.1:=by
          rw [hp] at hsorted; simpa using hsorted
        rw [List.pairwise_append,List.pairwise_cons] at hps2
        obtain ⟨_,⟨k2,_⟩,k3⟩:=hps2
        rw [hp,List.append_assoc,hstep p1 fun q hq => by have:=k3 q hq a (by simp); omega]
        simp only [List.cons_append,before,Nat.beq_refl,cond_true]
        rw [hid (p2 ++ s) fun q hq => by
          have hm:q ∈ p2 ++ (i,oi) :: s:=by
            simp only [List.mem_append,List.mem_cons] at hq ⊢
            rcases hq with hq | hq
            · exact .inl hq
            · exact .inr (.inr hq)
          have:=k2 q hm; omega]
      rw [hbefore] at hrun
      have htk:=runD_take p1 (x:=(i,oi)) (s:=a :: (p2 ++ s)) (fun q hq => ⟨ordered_false hL hr (by rw [hps,hp]; simp [hq]),fun _ hb => by rw [hap1 q hq] at hb; simp at hb⟩) hmem (num_ok hok fun q hq => hL.in_ops (by
        have:=hq
        simp only [List.mem_append,List.mem_cons] at this
        rw [hps,hp]
        simp only [List.mem_append,List.mem_cons]
        grind)) hrun
      have hE:p1 ++ a :: (p2 ++ s) = without i L:=by rw [hwo,hp]; simp
      rw [hE] at htk
      have:(fun sy' st' => if Alt C arr app true kp k r (without i L) sy' st' then runD C arr.toList app true kp k (without i L) sy' st' else none) = fun sy' st' => runD C arr.toList app true kp k (without i L) sy' st':=by
        funext sy' st'
        have hA3:allocs (without i L) = [a]:=by
          rw [hwo,allocs_append,hpa,hs0]; rfl
        rw [if_pos]
        intro _
        refine ⟨hok,by rw [hA3]; simp,fun L2 hL2 => ?_⟩
        unfold altOrder at hL2
        rw [hA3] at hL2
        simp at hL2
      rw [this]; exact htk
    · have htk:=runD_take p (x:=(i,oi)) (s:=s) (fun q hq => ⟨ordered_false hL hr (by rw [hps]; simp [hq]),fun _ hb => by
          cases hb2:isAlloc oi.op with
          | false => rfl
          | true => exact absurd ⟨q,hq,hb,hb2⟩ hal⟩) hmem (num_left hL') (by rw [← hps]; exact h)
      rw [stepK_exec hoki] at htk ⊢
      cases hex:exec C arr.toList oi st with
      | none => rw [hex] at htk; simp at htk
      | some p1 =>
        rw [hex] at htk
        simp only [Option.bind_some] at htk ⊢
        rw [if_pos,hwo]
        · exact htk
        · intro _
          refine ⟨hok,?_,fun L2 hL2 => ?_⟩
          · rw [hwo]
            have:(allocs (p ++ s)).length ≤ (allocs L).length:=by
              rw [hps,allocs_append,allocs_append]
              simp only [allocs]
              cases isAlloc oi.op <;> simp
            omega
          · -- an alternative is left: what is taken is no alloc
            have hna:isAlloc oi.op = false:=by
              cases hb:isAlloc oi.op with
              | false => rfl
              | true =>
                exfalso
                unfold altOrder at hL2
                split at hL2
                · rename_i a b hab
                  have:(allocs L).length = 3:=by
                    rw [hwo,allocs_append] at hab
                    rw [hps,allocs_append]
                    simp only [allocs,hb,cond_true]
                    have:=congrArg List.length hab
                    simp at this ⊢; omega
                  omega
                · simp at hL2
            have hal2:allocs (without i L) = allocs L:=allocs_without_ne fun q hq e => by rw [hidx q hq e]; exact hna
            unfold altOrder at hL2
            rw [hal2] at hL2
            split at hL2
            · rename_i a b hab
              simp at hL2; subst hL2
              have ha:a ∈ L ∧ isAlloc a.2.op = true:=allocs_mem.1 (by rw [hab]; simp)
              have hb:b ∈ L ∧ isAlloc b.2.op = true:=allocs_mem.1 (by rw [hab]; simp)
              have hai:a.1 ≠ i:=fun e => by rw [hidx a ha.1 e,hna] at ha; simp at ha
              have hbi:b.1 ≠ i:=fun e => by rw [hidx b hb.1 e,hna] at hb; simp at hb
              have hrun:=halt (before a.1 b (without b.1 L)) (by unfold altOrder; rw [hab])
              have hmi:(i,oi) ∈ before a.1 b (without b.1 L):=by
                have hmem2:∀ l:List (Nat × Oper),(i,oi) ∈ l → (i,oi) ∈ before a.1 b l:=by
                  intro l
                  induction l with
                  | nil => intro h; simp at h
                  | cons q l ih =>
                    intro h
                    simp only [before]
                    rcases List.mem_cons.1 h with h | h
                    · subst h; cases Nat.beq _ a.1 <;> simp
                    · cases Nat.beq q.1 a.1 <;> simp [ih h]
                exact hmem2 _ (without_mem.2 ⟨hm,fun e => hbi e.symm⟩)
              obtain ⟨p2,s2,hp2⟩:=List.append_of_mem hmi
              have hin:∀ q ∈ before a.1 b (without b.1 L),q ∈ L:=by
                intro q hq
                rcases before_mem hq with e | e
                · rw [e]; exact hb.1
                · exact (without_mem.1 e).1
              have htk2:=runD_take p2 (x:=(i,oi)) (s:=s2) (fun q hq => ⟨ordered_false hL hr (hin q (by rw [hp2]; simp [hq])),fun _ _ => hna⟩) hmem (num_ok hok fun q hq => hL.in_ops (hin q (by rw [hp2]; exact hq))) (by rw [← hp2]; exact hrun)
              rw [stepK_exec hoki,hex] at htk2
              simp only [Option.bind_some] at htk2
              have hcount:without i (before a.1 b (without b.1 L)) = p2 ++ s2:=by
                rw [hp2]
                refine without_mid fun q hq => ?_
                -- each number stands once
                have hnd:∀ l:List (Nat × Oper),(l.map (·.1)).Nodup → b.1 ∉ l.map (·.1) → ((before a.1 b l).map (·.1)).Nodup:=by
                  intro l
                  induction l with
                  | nil => intro _ _; simp [before]
                  | cons q l ih =>
                    intro h1 h2
                    simp only [List.map_cons,List.nodup_cons,List.mem_cons,not_or] at h1 h2
                    have ih:=ih h1.2 h2.2
                    have hsub:∀ t,t ∈ (before a.1 b l).map (·.1) → t = b.1 ∨ t ∈ l.map (·.1):=by
                      intro t ht
                      obtain ⟨z,hz,rfl⟩:=List.mem_map.1 ht
                      rcases before_mem hz with e | e
                      · rw [e]; exact .inl rfl
                      · exact .inr (List.mem_map.2 ⟨z,e,rfl⟩)
                    simp only [before]
                    cases hqa:Nat.beq q.1 a.1
                    · simp only [cond_false,List.map_cons,List.nodup_cons]
                      refine ⟨fun h => ?_,ih⟩
                      rcases hsub _ h with e | e
                      · exact h2.1 e.symm
                      · exact h1.1 e
                    · have hq:=Nat.eq_of_beq_eq_true hqa
                      have hid:before a.1 b l = l:=by
                        have:∀ m:List (Nat × Oper),a.1 ∉ m.map (·.1) → before a.1 b m = m:=by
                          intro m
                          induction m with
                          | nil => intro _; rfl
                          | cons z m ih =>
                            intro h
                            simp only [List.map_cons,List.mem_cons,not_or] at h
                            have:Nat.beq z.1 a.1 = false:=by
                              cases hb:Nat.beq z.1 a.1
                              · rfl
                              · exact absurd (Nat.eq_of_beq_eq_true hb).symm h.1
                            simp only [before,this,cond_false,ih h.2]
                        exact this l (by rw [← hq]; exact h1.1)
                      rw [hid]
                      simp only [cond_true,List.map_cons,List.nodup_cons,List.mem_cons,not_or]
                      exact ⟨⟨h2.1,h2.2⟩,h1⟩
                have hLn:(L.map (·.1)).Nodup:=by
                  have:=hL.sorted
                  rw [List.Nodup,List.pairwise_map]
                  exact this.imp fun h => by omega
                have hwn:((without b.1 L).map (·.1)).Nodup:=by
                  have:∀ l:List (Nat × Oper),(l.map (·.1)).Nodup → ((without b.1 l).map (·.1)).Nodup:=by
                    intro l
                    induction l with
                    | nil => intro _; simp [without]
                    | cons q l ih =>
                      intro h
                      simp only [List.map_cons,List.nodup_cons] at h
                      simp only [without]
                      cases Nat.beq q.1 b.1
                      · simp only [cond_false,List.map_cons,List.nodup_cons]
                        refine ⟨fun h3 => h.1 ?_,ih h.2⟩
                        obtain ⟨z,hz,e⟩:=List.mem_map.1 h3
                        exact List.mem_map.2 ⟨z,(without_mem.1 hz).1,e⟩
                      · simp only [cond_true]; exact ih h.2
                  exact this L hLn
                have hfin:=hnd (without b.1 L) hwn (fun h => by
                  obtain ⟨z,hz,e⟩:=List.mem_map.1 h
                  exact (without_mem.1 hz).2 e)
                rw [hp2] at hfin
                simp only [List.map_append,List.map_cons,List.nodup_append,List.nodup_cons,List.mem_cons,List.mem_map] at hfin
                rintro rfl
                rcases List.mem_append.1 hq with hq | hq
                · exact hfin.2.2 q.1 ⟨q,hq,rfl⟩ q.1 (.inl rfl) rfl
                · exact hfin.2.1.1 ⟨q,hq,rfl⟩
              have hkey:before a.1 b (without b.1 (without i L)) = p2 ++ s2:=by
                rw [without_comm b.1 i L,← without_before hbi hai,hcount]
              rw [hkey]; exact htk2
            · simp at hL2
end
end Go.PS
end

section
namespace Go.PS
open Go.RowKit
section
variable {P:Program} {C:Ctx} {W0:World} {R:Type} {kp:DV → List PObj → Option R} {k:St → Option R} {r:R} {Q:Exit → Act → World → Prop} {app two:Bool} {arr:Array Oper}
theorem ite_some {c:Prop} {inst:Decidable c} {x:Option R} (h:(if c then x else none) = some r):c ∧ x = some r:=by
  split at h
  · rename_i hc; exact ⟨hc,h⟩
  · simp at h
theorem runD_any (hC:TyOk P C) (hE:EnvOk P W0 C):∀ (fuel:Nat) {listed:Array Bool} {L:List (Nat × Oper)} {sy:Sy} {st:St} {a:Act} {o:Own} {sig:List Nat} {w:World},Left arr listed L → L.length ≤ fuel →
    Rel W0 o sig st a.tmps w → Syn a w sy → (app = false → sy = noSy) →
    (∀ a' st' o' sig' w',k st' = some r → Rel W0 o' sig' st' a'.tmps w' → Step o w o' w' → SigExt sig sig' → Kept arr.toList a a' → Q .normal a' w') →
    (∀ a' v x hp' o' sig' w',kp v hp' = some r → Enc o' w' v x → RelH o' sig' hp' w' → Gl W0 o' w' → Step o w o' w' → SigExt sig sig' → Kept arr.toList a a' → Q (.panic [{ v:=x,recovered:=false }]) a' w') →
    runD C arr.toList app two kp k L sy st = some r → Alt C arr app two kp k r L sy st → wpAny P .any arr Q fuel listed a w:=by
  intro fuel
  induction fuel with
  | zero =>
    intro listed L sy st a o sig w hL hlen hr hsy happ hk hp h halt
    have:L = []:=List.length_eq_zero_iff.1 (by omega)
    subst this
    refine ⟨?_,hk _ _ _ _ _ h hr (.refl _ _) (.refl _) (.refl _ _)⟩
    rw [List.eq_nil_iff_forall_not_mem]
    intro i hi
    obtain ⟨_,h2,o',h3,_⟩:=ready_iff.1 hi
    have:=hL.all i o' h3 h2
    simp at this
  | succ fuel ih =>
    intro listed L sy st a o sig w hL hlen hr hsy happ hk hp h halt
    refine ⟨fun hnil => ?_,fun i hi => ?_⟩
    · cases L with
      | nil => exact hk _ _ _ _ _ h hr (.refl _ _) (.refl _) (.refl _ _)
      | cons q L =>
        exfalso
        obtain ⟨i,oi⟩:=q
        obtain ⟨hm1,hm2⟩:=hL.mem (i,oi) (by simp)
        have hlt:i < arr.size:=(Array.getElem?_eq_some_iff.1 hm1).1
        simp only [runD] at h
        rw [bif_some] at h
        have hdown:=h.1
        simp only [Bool.and_eq_true] at hdown
        have hdown:=hdown.1.1
        have:i ∈ Region.ready .any arr listed:=by
          rw [ready_iff]
          refine ⟨hlt,hm2,oi,hm1,fun e he hb => ?_⟩
          unfold downB at hdown
          rw [List.all_eq_true] at hdown
          have:=hdown e he
          rw [hb] at this
          simp only [Bool.not_true,Bool.false_or] at this
          have hlt' : e.on < i:=Nat.le_of_ble_eq_true this
          have hsz:e.on < listed.size:=by rw [hL.size]; omega
          rw [getD_same hsz false true]
          cases hc:listed.getD e.on true with
          | true => rfl
          | false =>
            have hmem:=hL.all e.on arr[e.on] (by rw [Array.getElem?_eq_getElem (by omega)]) hc
            have hs:=hL.sorted
            rw [List.pairwise_cons] at hs
            rcases List.mem_cons.1 hmem with e1 | e1
            · simp at e1; omega
            · have:=hs.1 _ e1; simp at this; omega
        rw [hnil] at this; simp at this
    · obtain ⟨hlt,hl,oi,hoi,hedges⟩:=ready_iff.1 hi
      have hmem:=hL.all i oi hoi hl
      have hoil:oi ∈ arr.toList:=by rw [Array.mem_toList_iff]; exact Array.mem_of_getElem? hoi
      have htake:=take_both hL hmem hedges h halt
      have hLw:Left arr (listed.setIfInBounds i true) (without i L) ∧ (without i L).length ≤ fuel:=by
        obtain ⟨p,s,hps⟩:=List.append_of_mem hmem
        rw [hps] at hL hlen
        have hne:∀ q ∈ p ++ s,q.1 ≠ i:=by
          have:=hL.sorted
          rw [List.pairwise_append,List.pairwise_cons] at this
          obtain ⟨_,⟨h2,_⟩,h3⟩:=this
          intro q hq
          rcases List.mem_append.1 hq with hq | hq
          · have:=h3 q hq (i,oi) (by simp); simp at this; omega
          · have:=h2 q hq; simp at this; omega
        rw [hps,without_mid hne]
        exact ⟨hL.take hedges,by simp at hlen ⊢; omega⟩
      obtain ⟨hL',hlen'⟩:=hLw
      unfold stepK at htake
      obtain ⟨st',hr',htake⟩:=guarded_inv hr htake
      unfold wpOp
      rw [hoi]
      dsimp only
      have harr:arr.toList.toArray = arr:=by simp
      rw [harr] at htake
      rcases htake with ⟨hw,h⟩ | ⟨hw,h⟩
      · rw [hw,if_pos rfl]
        refine .inl (popK_syn hC hE hr' hsy ⟨?_,?_⟩ h)
        · intro x st2 o2 sig2 w2 g1 g2 g3 g4 g5
          have g1:=ite_some g1
          refine ih hL' hlen' g2 ?_ ?_ (fun a' st3 o3 sig3 w3 k1 k2 k3 k4 k5 => hk a' st3 o3 sig3 w3 k1 k2 (g3.trans k3) (g4.trans k4) (k5.mem hoil)) (fun a' v x hp' o' sig' w' k1 k2 k3 k4 k5 k6 k7 => hp a' v x hp' o' sig' w' k1 k2 k3 k4 (g3.trans k5) (g4.trans k6) (k7.mem hoil)) g1.2 g1.1
          · cases app with
            | true => exact g5
            | false => rw [happ rfl]; exact .nil
          · rintro rfl; exact happ rfl
        · intro v x hp' o' sig' w' k1 k2 k3 k4 k5 k6
          exact hp a v x hp' o' sig' w' k1 k2 k3 k4 k5 k6 (.refl _ _)
      · rw [hw,if_neg (by simp)]
        have h:=ite_some h
        refine ih hL' hlen' (hr'.put (x:=undef) (v:=.skp) .skp fun d _ k => cap_cmp_noOwn (v:=.skp) trivial (by simp) k) ?_ ?_
          (fun a' st3 o3 sig3 w3 k1 k2 k3 k4 k5 => hk a' st3 o3 sig3 w3 k1 k2 k3 k4 (k5.mem hoil)) (fun a' v x hp' o' sig' w' k1 k2 k3 k4 k5 k6 k7 => hp a' v x hp' o' sig' w' k1 k2 k3 k4 k5 k6 (k7.mem hoil)) h.2 h.1
        · cases app with
          | true => exact hsy.drop (d:=oi.dst) (x:=undef) fun _ _ _ h => h
          | false => rw [happ rfl]; exact .nil
        · rintro rfl; exact happ rfl
theorem numbered_get:∀ (l:List Oper) (n:Nat),(∀ q ∈ numbered n l,n ≤ q.1 ∧ l[q.1 - n]? = some q.2) ∧ (∀ (j:Nat) o,l[j]? = some o → (n + j,o) ∈ numbered n l) ∧ (numbered n l).Pairwise (fun q q' => q.1 < q'.1) ∧ (numbered n l).length = l.length:=by
  intro l
  induction l with
  | nil => intro n; simp [numbered]
  | cons o l ih =>
    intro n
    obtain ⟨h1,h2,h3,h4⟩:=ih (n + 1)
    refine ⟨fun q hq => ?_,fun j o' hj => ?_,?_,by simp [numbered,h4]⟩
    · simp only [numbered,List.mem_cons] at hq
      rcases hq with rfl | hq
      · simp
      · obtain ⟨e1,e2⟩:=h1 q hq
        refine ⟨by omega,?_⟩
        rw [show q.1 - n = q.1 - (n + 1) + 1 by omega,List.getElem?_cons_succ]; exact e2
    · cases j with
      | zero => simp at hj; subst hj; simp [numbered]
      | succ j =>
        have:=h2 j o' (by simpa using hj)
        simp only [numbered,List.mem_cons]
        rw [show n + (j + 1) = n + 1 + j by omega]
        exact .inr this
    · simp only [numbered,List.pairwise_cons]
      exact ⟨fun q hq => by have:=(h1 q hq).1; omega,h3⟩
theorem left_start:Left arr (Array.replicate arr.size false) (numbered 0 arr.toList):=by
  obtain ⟨h1,h2,h3,h4⟩:=numbered_get arr.toList 0
  have hf:∀ j,(Array.replicate arr.size false).getD j false = false:=by
    intro j; by_cases h:j < arr.size <;> simp [Array.getD,h]
  refine ⟨by simp,fun q hq => ?_,fun j o hj _ => by have:=h2 j o (by simpa using hj); simpa using this,h3,fun j o hj hl => ?_⟩
  · have:=(h1 q hq).2
    have this:arr[q.1]? = some q.2:=by simpa using this
    refine ⟨this,?_⟩
    have hlt:=(Array.getElem?_eq_some_iff.1 this).1
    simp [Array.getD,hlt]
  · have hlt:=(Array.getElem?_eq_some_iff.1 hj).1
    simp [Array.getD,hlt] at hl
theorem runD_sound (hC:TyOk P C) (hE:EnvOk P W0 C) (hm:P.follows .mixedOrders = true) {id:Nat} {st:St} {a:Act} {o:Own} {sig:List Nat} {w:World} (hr:Rel W0 o sig st a.tmps w)
    (hk:∀ a' st' o' sig' w',k st' = some r → Rel W0 o' sig' st' a'.tmps w' → Step o w o' w' → SigExt sig sig' → Kept arr.toList a a' → Q .normal a' w')
    (hp:∀ a' v x hp' o' sig' w',kp v hp' = some r → Enc o' w' v x → RelH o' sig' hp' w' → Gl W0 o' w' → Step o w o' w' → SigExt sig sig' → Kept arr.toList a a' → Q (.panic [{ v:=x,recovered:=false }]) a' w')
    (h:drawK C arr.toList kp k st = some r):(Code.region id arr true).wp P Q a w:=by
  have hg:Grow o w o { w with drawn:=w.drawn + 1 }:=⟨rfl,rfl,rfl,Nat.le_refl _,fun _ _ => ⟨rfl,rfl⟩,hr.gl.fin⟩
  have key:∀ two,runD C arr.toList (hasApp arr.toList) two kp k (numbered 0 arr.toList) noSy st = some r → Alt C arr (hasApp arr.toList) two kp k r (numbered 0 arr.toList) noSy st → (Code.region id arr true).wp P Q a w:=by
    intro two h h2
    refine wp_region_any hm ?_
    refine runD_any (app:=hasApp arr.toList) hC hE _ left_start (by rw [(numbered_get arr.toList 0).2.2.2]; simp) (hr.grow hg) .nil (fun _ => rfl) ?_ ?_ h h2
    · intro a' st' o' sig' w' h1 h2 h3 h4 h5
      exact hk a' st' o' sig' w' h1 h2 (hg.step.trans h3) h4 h5
    · intro a' v x hp' o' sig' w' h1 h2 h3 h4 h5 h6 h7
      exact hp a' v x hp' o' sig' w' h1 h2 h3 h4 (hg.step.trans h5) h6 h7
  unfold drawK at h
  split at h
  · exact key false h (fun h => by simp at h)
  · rename_i l hl
    rw [bif_none_some] at h
    obtain ⟨hok,h⟩:=h
    unfold amb at h
    split at h
    · rename_i heq
      refine key true h fun _ => ⟨by simpa using hok,?_,fun L2 hL2 => ?_⟩
      · unfold altOrder at hl
        split at hl
        · rename_i x y hxy; rw [hxy]; simp
        · simp at hl
      · rw [hl] at hL2
        simp at hL2; subst hL2
        rw [← heq]; exact h
    · simp at h
end
end Go.PS
end

section
namespace Go.PS
open Go.RowKit
section
variable {P:Program} {C:Ctx} {W0:World} {o:Own} {sig:List Nat} {st:St} {a:Act} {w:World} {R:Type} {tm:Array Value}
  {r:R} {Q:Exit → Act → World → Prop} {K:Ex → St → Option R}
def Exits (W0:World) (e:Ex) (o' : Own) (sig' : List Nat) (st' : St) (a' : Act) (w' : World):Exit → Prop
  | .normal => e = .normal ∧ Rel W0 o' sig' st' a'.tmps w'
  | .exit id => e = .exit id ∧ Rel W0 o' sig' st' a'.tmps w'
  | .ret => e = .ret ∧ Rel W0 o' sig' st' a'.tmps w'
  | .panic chain => ∃ v x,e = .pan v ∧ Enc o' w' v x ∧ RelH o' sig' st'.heap w' ∧ Gl W0 o' w' ∧ chain = [{ v:=x,recovered:=false }]
  | _ => False
def AfterI (I:Act → Prop) (W0:World) (o:Own) (sig:List Nat) (w:World) (K:Ex → St → Option R) (r:R) (Q:Exit → Act → World → Prop):Prop :=
  ∀ e st' o' sig' a' w' x,K e st' = some r → Exits W0 e o' sig' st' a' w' x → Step o w o' w' → SigExt sig sig' → I a' → Q x a' w'
theorem AfterI.trans {I:Act → Prop} {o1:Own} {sig1:List Nat} {w1:World} (h:AfterI I W0 o sig w K r Q) (hs:Step o w o1 w1) (he:SigExt sig sig1):AfterI I W0 o1 sig1 w1 K r Q :=
  fun e st' o' sig' a' w' x h1 h2 h3 h4 h5 => h e st' o' sig' a' w' x h1 h2 (hs.trans h3) (he.trans h4) h5
def After (ds:List Deferred) (W0:World) (o:Own) (sig:List Nat) (w:World) (K:Ex → St → Option R) (r:R) (Q:Exit → Act → World → Prop):Prop :=
  ∀ e st' o' sig' a' w' x,K e st' = some r → Exits W0 e o' sig' st' a' w' x → Step o w o' w' → SigExt sig sig' → a'.defers = ds → Q x a' w'
theorem After.trans {ds:List Deferred} {o1:Own} {sig1:List Nat} {w1:World} (h:After ds W0 o sig w K r Q) (hs:Step o w o1 w1) (he:SigExt sig sig1):After ds W0 o1 sig1 w1 K r Q :=
  fun e st' o' sig' a' w' x h1 h2 h3 h4 h5 => h e st' o' sig' a' w' x h1 h2 (hs.trans h3) (he.trans h4) h5
theorem Rel.forget (ts:List Nat):∀ {st:St},Rel W0 o sig st tm w → Rel W0 o sig ⟨PS.forget ts st.slots,st.heap⟩ tm w:=by
  induction ts with
  | nil => intro st h; exact h
  | cons t ts ih =>
    intro st h
    exact ih (h.setPS (d:=t) (v:=.undef) .undef fun k => cap_cmp_noOwn (v:=.undef) trivial (by simp) k)
mutual
theorem below_mono {n:Nat} {v:PV} {x:Value} (h:PEnc o w sig v x) (hb:below n v = true):PEnc o w (sig.take n) v x:=by
  match h with
  | .d h => exact .d h
  | .own h => exact .own h
  | .ptr (id:=id) h =>
    refine .ptr ?_
    have:id < n:=Nat.le_of_ble_eq_true hb
    rw [List.getElem?_take,if_pos this]; exact h
  | .ro ys hx hc hs => exact .ro ys hx hc hs
  | .func hn h => exact .func hn (belows_mono h hb)
  | .bnd h => exact .bnd (belows_mono h (by simpa [below,below.belows] using hb))
  | .tup h => simp [below] at hb
  | .undef => exact .undef
  | .skp => exact .skp
theorem belows_mono {n:Nat} {vs:List PV} {xs:List Value} (h:PEncL o w sig vs xs) (hb:below.belows n vs = true):PEncL o w (sig.take n) vs xs:=by
  match h with
  | .nil => exact .nil
  | .cons hh t =>
    simp only [below.belows,Bool.and_eq_true] at hb
    exact .cons (below_mono hh hb.1) (belows_mono t hb.2)
end
theorem belowsAll_get {n:Nat} {vs:List PV} (h:belowsAll n vs = true):∀ j,j < vs.length → below n (gt .undef vs j) = true:=by
  induction vs with
  | nil => intro j hj; simp at hj
  | cons v vs ih =>
    intro j hj
    simp only [belowsAll,Bool.and_eq_true] at h
    cases j with
    | zero => exact h.1
    | succ j => exact ih h.2 j (by simpa using hj)
theorem belowH_get {n:Nat} {H:List PObj} (h:belowH n H = true):∀ (id:Nat) vs,H[id]? = some (.cells vs) → belowsAll n vs = true:=by
  induction H with
  | nil => intro id vs hid; simp at hid
  | cons ob H ih =>
    intro id vs hid
    cases ob with
    | cells us =>
      simp only [belowH,Bool.and_eq_true] at h
      cases id with
      | zero => simp at hid; subst hid; exact h.1
      | succ id => exact ih h.2 id vs (by simpa using hid)
    | iter s pos =>
      cases id with
      | zero => simp at hid
      | succ id => exact ih h id vs (by simpa using hid)
theorem RelH.take {heap:List PObj} (h:RelH o sig heap w) (n:Nat) (hb:belowH n (heap.take n) = true):RelH o (sig.take n) (heap.take n) w where
  sigl:=by simp [h.sigl]
  obj id ob hid:=by
    have hlt:id < n:=by
      have:=(List.getElem?_eq_some_iff.1 hid).1
      simp at this; omega
    have hid':=hid
    rw [List.getElem?_take,if_pos hlt] at hid'
    obtain ⟨b,h1,h2,h3⟩:=h.obj id ob hid'
    refine ⟨b,by rw [List.getElem?_take,if_pos hlt]; exact h1,h2,?_⟩
    cases ob with
    | cells vs =>
      obtain ⟨cs,T,h4,h5,h6⟩:=h3
      exact ⟨cs,T,h4,h5,fun off hoff => ⟨below_mono (h6 off hoff).1 (belowsAll_get (belowH_get hb id vs hid) off hoff),(h6 off hoff).2.1,(h6 off hoff).2.2⟩⟩
    | iter s pos => exact h3
theorem Rel.take (h:Rel W0 o sig st tm w) (n:Nat) (hs:belowsAll n st.slots = true) (hb:belowH n (st.heap.take n) = true):Rel W0 o (sig.take n) ⟨st.slots,st.heap.take n⟩ tm w where
  gl:=h.gl
  len:=h.len
  slot j:=by
    by_cases hj:j < st.slots.length
    · exact below_mono (h.slot j) (belowsAll_get hs j hj)
    · have:gt PV.undef st.slots j = .undef:=by rw [gt_eq,List.getElem?_eq_none (Nat.le_of_not_lt hj)]; rfl
      show PEnc o w _ (gt PV.undef st.slots j) _
      rw [this]; exact .undef
  cap:=h.cap
  hp:=h.hp.take n hb
theorem SigExt.take {s s' : List Nat} (h:SigExt s s'):SigExt s (s'.take s.length):=by
  intro id b hid
  rw [List.getElem?_take,if_pos (List.getElem?_eq_some_iff.1 hid).1]
  exact h id b hid
def loopsOf:Code → List Code
  | .seq a b | .cond _ a b => loopsOf a ++ loopsOf b
  | .block _ c | .scope c => loopsOf c
  | .loop c => c :: loopsOf c
  | _ => []
def LpsOk (C:Ctx) (L:Lps) (l:List Code):Prop :=
  ∀ c ∈ l,∀ ks xs T,L (loopId c) = some (ks,xs,T) → ∀ (R:Type) st (K:Ex → St → Option R) (r:R),((T st).run fun p => K p.1 p.2) = some r → loopK (pcodeK C L c) st.heap.length (ks ++ temps c) xs C.fuel st K = some r
theorem lpsOk_no (C:Ctx) (l:List Code):LpsOk C noL l:=fun c _ ks xs T h => by simp [noL] at h
theorem LpsOk.sub {C:Ctx} {L:Lps} {l l' : List Code} (h:LpsOk C L l) (hs:∀ c ∈ l',c ∈ l):LpsOk C L l':=fun c hc => h c (hs c hc)
def opsOf:Code → List Oper
  | .region _ ops _ => ops.toList
  | .seq a b | .cond _ a b => opsOf a ++ opsOf b
  | .block _ c | .loop c | .scope c => opsOf c
  | _ => []
def KeepsI (I:Act → Prop) (c:Code):Prop:=∀ op ∈ opsOf c,∀ b x,I b → I (b.put op.dst x)
theorem KeepsI.sub {I:Act → Prop} {c c' : Code} (h:KeepsI I c) (hs:∀ op ∈ opsOf c',op ∈ opsOf c):KeepsI I c':=fun op ho => h op (hs op ho)
theorem pcodeK_inv (hC:TyOk P C) (hE:EnvOk P W0 C) (hm:P.follows .mixedOrders = true) {I:Act → Prop} {L:Lps}:∀ (c:Code) {st:St} {a:Act} {o:Own} {sig:List Nat} {w:World} {K:Ex → St → Option R} {Q:Exit → Act → World → Prop},
    LpsOk C L (loopsOf c) → KeepsI I c → Rel W0 o sig st a.tmps w → I a → AfterI I W0 o sig w K r Q → pcodeK C L c st K = some r → c.wp P Q a w:=by
  intro c
  induction c with
  | skip =>
    intro st a o sig w K Q hL hI hr hd hA h
    exact wp_skip (hA .normal _ _ _ _ _ .normal h ⟨rfl,hr⟩ (.refl _ _) (.refl _) hd)
  | label l =>
    intro st a o sig w K Q hL hI hr hd hA h
    exact wp_label (hA .normal _ _ _ _ _ .normal h ⟨rfl,hr⟩ (.refl _ _) (.refl _) hd)
  | exit id =>
    intro st a o sig w K Q hL hI hr hd hA h
    exact wp_exit (hA (.exit id) _ _ _ _ _ (.exit id) h ⟨rfl,hr⟩ (.refl _ _) (.refl _) hd)
  | ret =>
    intro st a o sig w K Q hL hI hr hd hA h
    exact wp_ret (hA .ret _ _ _ _ _ .ret h ⟨rfl,hr⟩ (.refl _ _) (.refl _) hd)
  | region id ops draw =>
    intro st a o sig w K Q hL hI hr hd hA h
    simp only [pcodeK] at h
    cases draw with
    | true =>
      simp only [cond_true] at h
      exact runD_sound hC hE hm hr (fun a' st' o' sig' w' h1 h2 h3 h4 h5 => hA .normal _ _ _ _ _ .normal h1 ⟨rfl,h2⟩ h3 h4 (h5 I hI hd))
        (fun a' v x hp' o' sig' w' h1 h2 h3 h4 h5 h6 h7 => hA (.pan v) _ _ _ _ _ (.panic _) h1 ⟨v,x,rfl,h2,h3,h4,rfl⟩ h5 h6 (h7 I hI hd)) h
    | false =>
    simp only [cond_false] at h
    refine wp_region_list ?_
    have:=popsK_sound (Q:=Q) hC hE (ops:=ops.toList) ops.toList hr .nil (fun a' st' o' sig' w' h1 h2 h3 h4 h5 => hA .normal _ _ _ _ _ .normal h1 ⟨rfl,h2⟩ h3 h4 (h5 I hI hd))
      (fun a' v x hp' o' sig' w' h1 h2 h3 h4 h5 h6 h7 => hA (.pan v) _ _ _ _ _ (.panic _) h1 ⟨v,x,rfl,h2,h3,h4,rfl⟩ h5 h6 (h7 I hI hd)) h
    simpa using this
  | seq x y ihx ihy =>
    intro st a o sig w K Q hL hI hr hd hA h
    simp only [pcodeK] at h
    refine wp_seq (ihx (hL.sub fun c hc => by simp [loopsOf,hc]) (hI.sub fun c hc => by simp [opsOf,hc]) hr hd ?_ h)
    intro e st' o' sig' a' w' ex h1 h2 h3 h4 h5
    cases ex with
    | normal =>
      obtain ⟨rfl,h2⟩:=h2
      exact ihy (hL.sub fun c hc => by simp [loopsOf,hc]) (hI.sub fun c hc => by simp [opsOf,hc]) h2 h5 (hA.trans h3 h4) h1
    | exit id => obtain ⟨rfl,h2⟩:=h2; exact hA _ _ _ _ _ _ (.exit id) h1 ⟨rfl,h2⟩ h3 h4 h5
    | ret => obtain ⟨rfl,h2⟩:=h2; exact hA _ _ _ _ _ _ .ret h1 ⟨rfl,h2⟩ h3 h4 h5
    | panic ch =>
      obtain ⟨v,x,rfl,h2⟩:=h2
      exact hA _ _ _ _ _ _ (.panic ch) h1 ⟨v,x,rfl,h2⟩ h3 h4 h5
    | goto l => exact h2.elim
    | outgrown => exact h2.elim
  | cond c x y ihx ihy =>
    intro st a o sig w K Q hL hI hr hd hA h
    simp only [pcodeK] at h
    split at h
    · rename_i t ht
      have hc:=(hr.ev c)
      rw [ht] at hc
      have hc:=hc.bool_inv
      have hset:∀ b,t = b → Rel W0 o sig (settle st c b) a.tmps w:=by
        rintro b rfl
        unfold settle
        split
        · exact hr.lit ht
        · exact hr
      rw [cnd_some] at h
      rcases h with ⟨rfl,h⟩ | ⟨rfl,h⟩
      · exact wp_cond_true hc (ihx (hL.sub fun c hc => by simp [loopsOf,hc]) (hI.sub fun c hc => by simp [opsOf,hc]) (hset _ rfl) hd hA h)
      · exact wp_cond_false hc (ihy (hL.sub fun c hc => by simp [loopsOf,hc]) (hI.sub fun c hc => by simp [opsOf,hc]) (hset _ rfl) hd hA h)
    · simp at h
  | block id c ih =>
    intro st a o sig w K Q hL hI hr hd hA h
    simp only [pcodeK] at h
    refine wp_block (ih (hL.sub fun c hc => by simpa [loopsOf] using hc) (hI.sub fun c hc => by simpa [opsOf] using hc) hr hd ?_ h)
    intro e st' o' sig' a' w' ex h1 h2 h3 h4 h5
    cases ex with
    | normal => obtain ⟨rfl,h2⟩:=h2; exact hA _ _ _ _ _ _ .normal h1 ⟨rfl,h2⟩ h3 h4 h5
    | exit id' =>
      obtain ⟨rfl,h2⟩:=h2
      unfold Exit.inBlock
      dsimp only at h1
      dsimp only
      by_cases e:id' = id
      · subst e
        rw [if_pos rfl]
        simp only [Nat.beq_refl,cond_true] at h1
        exact hA _ _ _ _ _ _ .normal h1 ⟨rfl,h2⟩ h3 h4 h5
      · rw [if_neg e]
        have:Nat.beq id' id = false:=by
          cases hb:Nat.beq id' id
          · rfl
          · exact absurd (Nat.eq_of_beq_eq_true hb) e
        rw [this] at h1
        exact hA _ _ _ _ _ _ (.exit id') h1 ⟨rfl,h2⟩ h3 h4 h5
    | ret => obtain ⟨rfl,h2⟩:=h2; exact hA _ _ _ _ _ _ .ret h1 ⟨rfl,h2⟩ h3 h4 h5
    | panic ch =>
      obtain ⟨v,x,rfl,h2⟩:=h2
      exact hA _ _ _ _ _ _ (.panic ch) h1 ⟨v,x,rfl,h2⟩ h3 h4 h5
    | goto l => exact h2.elim
    | outgrown => exact h2.elim
  | loop c ih =>
    intro st a o sig w K Q hL hI hr hd hA h
    simp only [pcodeK] at h
    have hd1:∀ {st1:St} {a1:Act} {o1:Own} {sig1:List Nat} {w1:World} {F:St → Option R},Rel W0 o1 sig1 st1 a1.tmps w1 → SigExt sig sig1 → ∀ ts,head st.heap.length ts st1 F = some r →
        ∃ st2 sig2,F st2 = some r ∧ Rel W0 o1 sig2 st2 a1.tmps w1 ∧ SigExt sig sig2 ∧ ((tk st1.heap st.heap.length).length = st.heap.length → st2.heap.length = st.heap.length):=by
      intro st1 a1 o1 sig1 w1 F hr1 he1 ts h1
      unfold head at h1
      rw [bif_some] at h1
      obtain ⟨hb,h1⟩:=h1
      simp only [Bool.and_eq_true,tk_eq] at hb
      have hr2:=(hr1.forget ts).take st.heap.length hb.1 hb.2
      rw [tk_eq] at h1
      rw [← hr.hp.sigl] at hr2 h1
      exact ⟨_,_,h1,hr2,he1.take,fun hl => by rw [tk_eq] at hl; rw [hr.hp.sigl]; exact hl⟩
    have hd2:∀ {st1:St} {a1:Act} {o1:Own} {sig1:List Nat} {w1:World},Rel W0 o1 sig1 st1 a1.tmps w1 → SigExt sig sig1 → ∀ xs,
        ∃ sig2,Rel W0 o1 sig2 (cutSt st.heap.length (forget xs st1.slots) st1.heap) a1.tmps w1 ∧ SigExt sig sig2:=by
      intro st1 a1 o1 sig1 w1 hr1 he1 xs
      unfold cutSt
      cases hb:(belowsAll st.heap.length (forget xs st1.slots) && belowH st.heap.length (tk st1.heap st.heap.length)) with
      | false => exact ⟨_,hr1.forget xs,he1⟩
      | true =>
        simp only [Bool.and_eq_true,tk_eq] at hb
        have hr2:=(hr1.forget xs).take st.heap.length hb.1 hb.2
        rw [← hr.hp.sigl] at hr2
        rw [tk_eq,← hr.hp.sigl]
        exact ⟨_,hr2,he1.take⟩
    have key:∀ (ts xs:List Nat) (m:Nat) {st1:St} {a1:Act} {o1:Own} {sig1:List Nat} {w1:World},Rel W0 o1 sig1 st1 a1.tmps w1 → I a1 → Step o w o1 w1 → SigExt sig sig1 →
        loopK (pcodeK C L c) st.heap.length ts xs m st1 K = some r → Code.rounds P c Q m a1 w1:=by
      intro ts xs m
      induction m with
      | zero => intro st1 a1 o1 sig1 w1 _ _ _ _ h1; simp [loopK] at h1
      | succ m ihm =>
        intro st1 a1 o1 sig1 w1 hr1 hdf hs1 he1 h1
        simp only [loopK] at h1
        rw [rounds_succ]
        refine ih (hL.sub fun c hc => by simp [loopsOf,hc]) (hI.sub fun c hc => by simp [opsOf,hc]) hr1 hdf ?_ h1
        intro e st' o' sig' a' w' ex k1 k2 k3 k4 k5
        cases ex with
        | normal =>
          obtain ⟨rfl,k2⟩:=k2
          obtain ⟨st2,sig2,e1,e2,e3,_⟩:=hd1 k2 (he1.trans k4) _ k1
          exact ihm e2 k5 (hs1.trans k3) e3 e1
        | exit id =>
          obtain ⟨rfl,k2⟩:=k2
          obtain ⟨sig2,g1,g2⟩:=hd2 k2 (he1.trans k4) xs
          exact hA _ _ _ _ _ _ (.exit id) k1 ⟨rfl,g1⟩ (hs1.trans k3) g2 k5
        | ret =>
          obtain ⟨rfl,k2⟩:=k2
          obtain ⟨sig2,g1,g2⟩:=hd2 k2 (he1.trans k4) xs
          exact hA _ _ _ _ _ _ .ret k1 ⟨rfl,g1⟩ (hs1.trans k3) g2 k5
        | panic ch =>
          obtain ⟨v,x,rfl,k2,k6,k7,k8⟩:=k2
          dsimp only at k1
          unfold cutH at k1
          cases hb:belowH st.heap.length (tk st'.heap st.heap.length) with
          | false => rw [hb] at k1; exact hA _ _ _ _ _ _ (.panic ch) k1 ⟨v,x,rfl,k2,k6,k7,k8⟩ (hs1.trans k3) (he1.trans k4) k5
          | true =>
            rw [hb] at k1
            rw [tk_eq] at hb
            simp only [cond_true,tk_eq] at k1
            rw [← hr.hp.sigl] at k1 hb
            exact hA _ _ _ _ _ _ (.panic ch) k1 ⟨v,x,rfl,k2,k6.take _ hb,k7,k8⟩ (hs1.trans k3) (he1.trans k4).take k5
        | goto l => exact k2.elim
        | outgrown => exact k2.elim
    split at h
    · rename_i ks xs T hT
      obtain ⟨st2,sig2,e1,e2,e3,e4⟩:=hd1 hr (.refl _) _ h
      have e4:=e4 (by rw [tk_eq]; simp)
      have e1:=hL c (by simp [loopsOf]) ks xs T hT R st2 K r e1
      rw [e4] at e1
      exact wp_loop_rounds _ (key _ _ _ e2 hd (.refl _ _) e3 e1)
    · obtain ⟨st2,sig2,e1,e2,e3,e4⟩:=hd1 hr (.refl _) _ h
      exact wp_loop_rounds _ (key _ _ _ e2 hd (.refl _ _) e3 e1)
  | scope c ih => intro st a o sig w K Q hL hI hr hd hA h; simp [pcodeK] at h
  | goto l => intro st a o sig w K Q hL hI hr hd hA h; simp [pcodeK] at h
  | rangeFunc => intro st a o sig w K Q hL hI hr hd hA h; simp [pcodeK] at h
  | refuse => intro st a o sig w K Q hL hI hr hd hA h; simp [pcodeK] at h
theorem pcodeK_sound (hC:TyOk P C) (hE:EnvOk P W0 C) (hm:P.follows .mixedOrders = true) {ds:List Deferred} {L:Lps} (c:Code) {st:St} {a:Act} {o:Own} {sig:List Nat} {w:World} {K:Ex → St → Option R} {Q:Exit → Act → World → Prop}
    (hL:LpsOk C L (loopsOf c)) (hr:Rel W0 o sig st a.tmps w) (hd:a.defers = ds) (hA:After ds W0 o sig w K r Q) (h:pcodeK C L c st K = some r):c.wp P Q a w :=
  pcodeK_inv (I:=fun a => a.defers = ds) hC hE hm c hL (fun op _ b x hb => by show (b.put op.dst x).defers = ds; rw [put_defers]; exact hb) hr hd hA h
end
end Go.PS
end

section
namespace Go.PS
open Go.RowKit
def resV (C:Ctx) (st:St):ResultVar → Option PV
  | .tmp t => match gt .undef st.slots t with
    | .tup _ => none
    | .undef => none
    | v => some v
  | .cell a T => match gt .undef st.slots a with
    | .ptr id off => heapCells st.heap id fun cs => loadCells (C.ty T) (dr cs off) some
    | _ => none
def resVs (C:Ctx) (st:St):List ResultVar → Option (List PV)
  | [] => some []
  | x :: l => match resV C st x with
    | some v => match resVs C st l with
      | some vs => some (v :: vs)
      | none => none
    | none => none
def below0s:List PV → Bool
  | [] => true
  | v :: l => below 0 v && below0s l
def resK (C:Ctx) (rs:List ResultVar) (st:St):Option PV :=
  match resVs C st rs with
  | some vs => bif below0s vs then (match vs with | [v] => some v | vs => some (.tup vs)) else none
  | none => none
def tmpsOf:List ResultVar → List Nat
  | [] => []
  | .tmp t :: l => t :: tmpsOf l
  | .cell .. :: l => tmpsOf l
def argsK:List PV → Option (List PV)
  | [] => some []
  | v :: l => bif below 0 v then (match argsK l with | some vs => some (v.plain :: vs) | none => none) else none
noncomputable def runP (C:Ctx) (L:Lps) (n:Nat) (rs:List ResultVar) (c:Code) (args:List PV):Option PV :=
  match argsK args with
  | some vs => pcodeK C L c ⟨vs ++ rep (n - args.length) .undef,[]⟩ fun e st => match e with
    | .normal | .ret => resK C rs st
    | _ => none
  | none => none
section
variable {P:Program} {C:Ctx} {W0:World} {o:Own} {sig:List Nat} {st:St} {a:Act} {w:World} {R:Type} {tm:Array Value}
theorem argsK_enc:∀ {vs us:List PV} {xs:List Value},PEncL o w sig vs xs → argsK vs = some us → PEncL o w [] us xs ∧ us.length = vs.length ∧ ∀ j,(∀ k,(cmpV (gt .undef us j) k).noOwn):=by
  intro vs
  induction vs with
  | nil =>
    intro us xs h g
    simp [argsK] at g; subst g
    cases h
    exact ⟨.nil,rfl,fun j k => by simp only [gt,cmpV]; split <;> trivial⟩
  | cons v vs ih =>
    intro us xs h g
    cases h with | cons hh t =>
    simp only [argsK] at g
    rw [bif_some] at g
    obtain ⟨hb,g⟩:=g
    split at g
    · rename_i us' hus
      simp at g; subst g
      obtain ⟨h1,h2,h3⟩:=ih t hus
      have:=(below_mono hh hb).plain
      rw [List.take_zero] at this
      refine ⟨.cons this h1,by simp [h2],fun j k => ?_⟩
      cases j with
      | zero => exact plain_cmp (PV.plain_noOwn v) (plain_tup fun us e => by rw [e] at hb; simp [below] at hb) k
      | succ j => exact h3 j k
    · simp at g
def resAt (rs:List ResultVar) (n:Nat) (j:Nat):Option Nat :=
  match rs with
  | [] => none
  | .tmp t :: l => if t = j then some n else resAt l (n + 1) j
  | .cell .. :: l => resAt l (n + 1) j
def outR (rs:List ResultVar) (p:Pl):Pl :=
  match p with
  | .slot j 0 => match resAt rs 0 j with | some k => .res k | none => .dead
  | p => p
theorem resAt_get:∀ {rs:List ResultVar} {n i j:Nat},nodupN (tmpsOf rs) = true → rs[i]? = some (.tmp j) → resAt rs n j = some (n + i):=by
  intro rs
  induction rs with
  | nil => intro n i j _ h; simp at h
  | cons x rs ih =>
    intro n i j hn h
    cases x with
    | tmp t =>
      obtain ⟨h1,h2⟩:=nodupN_spec hn
      cases i with
      | zero => simp at h; subst h; simp [resAt]
      | succ i =>
        have hne:t ≠ j:=by
          rintro rfl
          refine h1 ?_
          have:∀ (l:List ResultVar) (i:Nat),l[i]? = some (.tmp t) → t ∈ tmpsOf l:=by
            intro l
            induction l with
            | nil => intro i h; simp at h
            | cons y l ih =>
              intro i h
              cases i with
              | zero => simp at h; subst h; simp [tmpsOf]
              | succ i => cases y <;> simp [tmpsOf] <;> first | exact .inr (ih i (by simpa using h)) | exact ih i (by simpa using h)
          exact this rs i (by simpa using h)
        simp only [resAt,if_neg hne]
        rw [ih h2 (by simpa using h)]
        congr 1; omega
    | cell b T =>
      cases i with
      | zero => simp at h
      | succ i =>
        simp only [resAt]
        rw [ih hn (by simpa using h)]
        congr 1; omega
theorem resVs_get:∀ {rs:List ResultVar} {vs:List PV},resVs C st rs = some vs → vs.length = rs.length ∧ ∀ (i:Nat) v,vs[i]? = some v → ∃ x,rs[i]? = some x ∧ resV C st x = some v:=by
  intro rs
  induction rs with
  | nil => intro vs h; simp [resVs] at h; subst h; simp
  | cons x rs ih =>
    intro vs h
    simp only [resVs] at h
    split at h
    · rename_i v hv
      split at h
      · rename_i us hus
        simp at h; subst h
        obtain ⟨h1,h2⟩:=ih hus
        refine ⟨by simp [h1],fun i u hu => ?_⟩
        cases i with
        | zero => simp at hu; subst hu; exact ⟨x,by simp,hv⟩
        | succ i => simpa using h2 i u (by simpa using hu)
      · simp at h
    · simp at h
theorem resV_sound (hC:TyOk P C) (hr:Rel W0 o sig st tm w) {x:ResultVar} {v:PV} (h:resV C st x = some v) :
    ∃ y,((match x with
      | .tmp t => pure (tm.getD t undef)
      | .cell a t => do loadVar t (← asAddr (tm.getD a undef)):Sem Value)).run P w = .ok y w ∧ PEnc o w sig v y ∧ (∀ us,v ≠ .tup us) ∧
      (v.noOwn ∨ ∃ t,x = .tmp t ∧ Cap o w (.slot t 0) v y):=by
  cases x with
  | tmp t =>
    simp only [resV] at h
    have hs:=hr.slot t
    have hc:=hr.cap t 0
    refine ⟨tm.getD t undef,by simp,?_⟩
    split at h
    · simp at h
    · simp at h
    · rename_i u h1 h2
      simp at h; subst h
      exact ⟨hs,h1,.inr ⟨t,rfl,hc.cmp0 h1⟩⟩
  | cell b T =>
    simp only [resV] at h
    split at h
    · rename_i id off he
      obtain ⟨cs,hid,h⟩:=heapCells_inv h
      have hs:=hr.slot b
      rw [he] at hs
      obtain ⟨blk,hb,hX⟩:=hs.ptr_inv
      have hcs:=(hr.hp.toCells hid hb).drop off
      rw [Nat.zero_add] at hcs
      obtain ⟨u,h1,y,h2,h3,h4,h5,_⟩:=loadCells_sound (P:=P) hC hcs h
      simp at h1; subst h1
      refine ⟨y,?_,h3,h5,.inl h4⟩
      show Sem.run P (do loadVar T (← asAddr (tm.getD b undef))) w = _
      rw [hX]
      simp [asAddr,h2]
    · simp at h
theorem sem_id_map {α:Type} (x:Sem α):x.bind (fun a => Sem.pure a) = x:=by
  induction x <;> simp_all [Sem.bind]
  case frozen h => funext b; cases b <;> simp_all
theorem sem_assoc {α β γ:Type} (x:Sem α) (f:α → Sem β) (g:β → Sem γ):(x.bind f).bind g = x.bind fun a => (f a).bind g:=by
  induction x <;> simp_all [Sem.bind]
  case frozen h => funext b; cases b <;> simp_all
instance semLawful:LawfulMonad Sem:=LawfulMonad.mk' Sem (fun x => sem_id_map x) (fun _ _ => rfl) (fun x f g => sem_assoc x f g)
theorem mapM_run {α β:Type} {f:α → Sem β} {as:Array α} {w:World} {ys:List β} (hl:ys.length = as.size) (h:∀ (i:Nat) x y,as[i]? = some x → ys[i]? = some y → (f x).run P w = .ok y w) :
    (as.mapM f).run P w = .ok ys.toArray w:=by
  have key:∀ (l:List α) (ys:List β),ys.length = l.length → (∀ (i:Nat) x y,l[i]? = some x → ys[i]? = some y → (f x).run P w = .ok y w) → (l.mapM f).run P w = .ok ys w:=by
    intro l
    induction l with
    | nil => intro ys hl _; cases ys with | nil => simp | cons y ys => simp at hl
    | cons x l ih =>
      intro ys hl h
      cases ys with
      | nil => simp at hl
      | cons y ys =>
        rw [List.mapM_cons,Sem.run_bind,h 0 x y (by simp) (by simp)]
        simp only [Result.andThen_ok,Sem.run_bind]
        rw [ih ys (by simpa using hl) fun i x' y' hx hy => h (i + 1) x' y' (by simpa using hx) (by simpa using hy)]
        simp
  have h1:=key as.toList ys (by simpa using hl) fun i x y hx hy => h i x y (by simpa using hx) hy
  rw [← Array.toList_mapM,Sem.run_map] at h1
  cases hr:(as.mapM f).run P w with
  | ok arr w' =>
    rw [hr] at h1
    simp only [Result.andThen_ok,Result.ok.injEq] at h1
    obtain ⟨h1,rfl⟩:=h1
    rw [← h1]
  | halt e w' => rw [hr] at h1; simp at h1
theorem resK_sound (hC:TyOk P C) (hr:Rel W0 o sig st a.tmps w) {fn:Func} (hnd:nodupN (tmpsOf fn.results.toList) = true) {v:PV} (h:resK C fn.results.toList st = some v) :
    ∃ y,(results fn a.tmps).run P w = .ok y w ∧ PEnc o w [] v y ∧ ∀ k,Cap (rel (outR fn.results.toList) o) w (.res k) (cmpV v k) (cmpX v y k):=by
  unfold resK at h
  split at h
  · rename_i vs hvs
    rw [bif_some] at h
    obtain ⟨hb,h⟩:=h
    obtain ⟨hlen,hget⟩:=resVs_get hvs
    let F:ResultVar → Sem Value:=fun x => match x with
      | .tmp t => pure (a.tmps.getD t undef)
      | .cell b t => do loadVar t (← asAddr (a.tmps.getD b undef))
    have hex:∀ (i:Nat) v,vs[i]? = some v → ∃ y,(∀ x,fn.results.toList[i]? = some x → (F x).run P w = .ok y w) ∧ PEnc o w sig v y ∧ (∀ us,v ≠ .tup us) ∧ Cap (rel (outR fn.results.toList) o) w (.res i) v y:=by
      intro i v hv
      obtain ⟨x,hx,hxv⟩:=hget i v hv
      obtain ⟨y,h1,h2,h3,h4⟩:=resV_sound hC hr hxv
      refine ⟨y,?_,h2,h3,?_⟩
      · intro x' hx'
        rw [hx] at hx'; simp only [Option.some.injEq] at hx'; subst hx'
        exact h1
      · rcases h4 with h4 | ⟨t,rfl,h4⟩
        · exact Cap.of_noOwn h4
        · refine cap_rel h4 ?_
          have:=resAt_get (n:=0) hnd hx
          rw [Nat.zero_add] at this
          show outR _ (.slot t 0) = _
          simp only [outR,this]
    have hys:∃ ys:List Value,PEncL o w sig vs ys ∧ (∀ (i:Nat) y,ys[i]? = some y → (∀ x,fn.results.toList[i]? = some x → (F x).run P w = .ok y w) ∧ ∀ v,vs[i]? = some v → (∀ us,v ≠ .tup us) ∧ Cap (rel (outR fn.results.toList) o) w (.res i) v y):=by
      have:∀ (l:List PV) (m:Nat),(∀ (i:Nat) v,l[i]? = some v → vs[m + i]? = some v) → ∃ ys:List Value,PEncL o w sig l ys ∧ (∀ (i:Nat) y,ys[i]? = some y → (∀ x,fn.results.toList[m + i]? = some x → (F x).run P w = .ok y w) ∧ ∀ v,l[i]? = some v → (∀ us,v ≠ .tup us) ∧ Cap (rel (outR fn.results.toList) o) w (.res (m + i)) v y):=by
        intro l
        induction l with
        | nil => intro m _; exact ⟨[],.nil,fun i y h => by simp at h⟩
        | cons u l ih =>
          intro m hm
          obtain ⟨ys,h1,h2⟩:=ih (m + 1) (fun i v hv => by have:=hm (i + 1) v (by simpa using hv); rw [← this]; congr 1; omega)
          obtain ⟨y,e1,e2,e3,e4⟩:=hex m u (by have:=hm 0 u (by simp); simpa using this)
          refine ⟨y :: ys,.cons e2 h1,fun i z hz => ?_⟩
          cases i with
          | zero =>
            simp at hz; subst hz
            exact ⟨e1,fun v hv => by simp at hv; subst hv; exact ⟨e3,e4⟩⟩
          | succ i =>
            have:=h2 i z (by simpa using hz)
            rw [show m + 1 + i = m + (i + 1) by omega] at this
            exact ⟨this.1,fun v hv => this.2 v (by simpa using hv)⟩
      obtain ⟨ys,h1,h2⟩:=this vs 0 (fun i v hv => by simpa using hv)
      exact ⟨ys,h1,by simpa using h2⟩
    obtain ⟨ys,h1,h2⟩:=hys
    have hl:ys.length = fn.results.size:=by rw [← h1.length,hlen]; simp
    have hrun:(fn.results.mapM F).run P w = .ok ys.toArray w:=mapM_run hl fun i x y hx hy => (h2 i y hy).1 x (by simpa using hx)
    have hb0:∀ {l:List PV} {zs:List Value},below0s l = true → PEncL o w sig l zs → PEncL o w [] l zs:=by
      intro l
      induction l with
      | nil => intro zs _ h; cases h; exact .nil
      | cons u l ih =>
        intro zs hb h
        cases h with | cons hh t =>
        simp only [below0s,Bool.and_eq_true] at hb
        have:=below_mono hh hb.1
        rw [List.take_zero] at this
        exact .cons this (ih hb.2 t)
    have hr1:=hb0 hb h1
    have hrun' : (results fn a.tmps).run P w = .ok (if h:ys.toArray.size = 1 then ys.toArray[0] else .tuple ys.toArray) w:=by
      unfold results
      rw [Sem.run_bind]
      show ((fn.results.mapM F).run P w).andThen _ = _
      rw [hrun]; rfl
    split at h
    · rename_i u
      simp at h; subst h
      cases hr1 with | cons hh t =>
      rename_i y ys
      cases t
      refine ⟨y,by rw [hrun']; simp,hh,fun k => ?_⟩
      have:=(h2 0 y (by simp)).2 u (by simp)
      unfold cmpV
      split
      · rename_i us; exact absurd rfl (this.1 us)
      · by_cases hk:k = 0
        · subst hk
          rw [if_pos rfl]
          have hcx:cmpX u y 0 = y:=by
            unfold cmpX; split
            · exact absurd rfl (this.1 _)
            · rfl
          rw [hcx]; exact this.2
        · rw [if_neg hk]; exact Cap.of_noOwn trivial
    · rename_i us hne
      simp at h; subst h
      refine ⟨.tuple ys.toArray,?_,.tup hr1,fun k => ?_⟩
      · rw [hrun',dif_neg]
        intro h1s
        have:vs.length = 1:=by rw [hr1.length]; simpa using h1s
        obtain ⟨u,rfl⟩:=List.length_eq_one_iff.1 this
        exact hne u rfl
      · simp only [cmpV,cmpX]
        by_cases hk:k < vs.length
        · have hky:k < ys.length:=by rw [← h1.length]; exact hk
          have:=((h2 k ys[k] (by simp [hky])).2 vs[k] (by simp [hk])).2
          rw [gt_eq,List.getElem?_eq_getElem hk]
          simpa [hky] using this
        · rw [gt_eq,List.getElem?_eq_none (by omega)]; exact Cap.of_noOwn trivial
  · simp at h
theorem enters_of {f : FuncId} {fn : Func} (hf : P.funcs[f]? = some fn) {c : Code} (hb : fn.body = some c) (hn : (fn.name == "runtime.NumGoroutine") = false) : ∀ args w, (callFunc f args).run P w = .ok (.enter f args) w := by
  intro args w
  have hn : ¬ fn.name = "runtime.NumGoroutine" := by simpa using hn
  simp [callFunc,hf,hn,hb]
theorem soundP_of (hC : TyOk P C) (hE : EnvOk P W0 C) (hm : P.follows .mixedOrders = true) {f : FuncId} {fn : Func} (hf : P.funcs[f]? = some fn) {c : Code} (hb : fn.body = some c) (hn : (fn.name == "runtime.NumGoroutine") = false)
    (hnd:nodupN (tmpsOf fn.results.toList) = true) {L:Lps} (hL:LpsOk C L (loopsOf c)) {S:List PV → Option PV} (h:∀ args v,S args = some v → runP C L fn.ntmps fn.results.toList c args = some v):SoundP P W0 f S:=by
  refine ⟨enters_of hf hb hn,?_⟩
  intro args v hs o sig w xs hg hres hx
  have h:=h args v hs
  unfold runP at h
  split at h
  · rename_i us hus
    obtain ⟨h1,h2,h3⟩:=argsK_enc hx hus
    refine calls_of_wp hf hb ?_
    -- all that was there is foreign
    let φ:Pl → Pl:=fun _ => .ext
    have hst:∀ b off x,Stab o w b off x → Stab (rel φ o) w b off x:=fun _ _ _ h => rel_stab h
    have hg' : Gl W0 (rel φ o) w:=hg.relabel φ
    have hx' : PEncL (rel φ o) w [] us xs:=h1.mono hst fun _ _ h => h
    have hxl:xs.length = us.length:=hx'.length.symm
    have hall:PEncL (rel φ o) w [] (us ++ rep (fn.ntmps - args.length) .undef) (xs ++ List.replicate (fn.ntmps - args.length) undef):=by
      refine hx'.append ?_
      rw [rep_eq]
      generalize fn.ntmps - args.length = m
      induction m with
      | zero => exact .nil
      | succ m ih => exact .cons .undef ih
    have htm:(xs.toArray ++ Array.replicate (fn.ntmps - xs.toArray.size) undef) = (xs ++ List.replicate (fn.ntmps - args.length) undef).toArray:=by
      apply Array.ext'
      simp [hxl,h2]
    rw [htm]
    have hrel:Rel W0 (rel φ o) [] ⟨us ++ rep (fn.ntmps - args.length) .undef,[]⟩ (xs ++ List.replicate (fn.ntmps - args.length) undef).toArray w:=by
      refine ⟨hg',by have:=hall.length; simp at this ⊢; omega,fun j => ?_,fun j k => ?_,⟨rfl,fun id ob h => by simp at h⟩⟩
      · have:=hall.get j; simpa using this
      · refine Cap.of_noOwn ?_
        by_cases hj:j < us.length
        · have:=h3 j k
          rw [gt_eq] at this
          rw [gt_eq,List.getElem?_append_left hj]
          exact this
        · have:gt PV.undef (us ++ rep (fn.ntmps - args.length) .undef) j = .undef:=by
            rw [gt_eq,List.getElem?_append_right (by omega),rep_eq]
            cases hh:(List.replicate (fn.ntmps - args.length) PV.undef)[j - us.length]? with
            | none => rfl
            | some x => have:=List.mem_of_getElem? hh; rw [List.mem_replicate] at this; rw [this.2]; rfl
          show (cmpV (gt PV.undef (us ++ rep (fn.ntmps - args.length) .undef) j) k).noOwn
          rw [this]; unfold cmpV; dsimp only; split <;> trivial
    refine pcodeK_sound (a:={ tmps:=(xs ++ List.replicate (fn.ntmps - args.length) undef).toArray,defers:=[] }) hC hE hm c hL hrel rfl ?_ h
    intro e st' o' sig' a' w' ex k1 k2 k3 k4 k5
    have fin:Rel W0 o' sig' st' a'.tmps w' → resK C fn.results.toList st' = some v → a'.defers = [] ∧ ∃ y,(results fn a'.tmps).run P w' = .ok y w' ∧ ∃ x o'',(.returned y:Ending) = .returned x ∧ Grow o w o'' w' ∧ PEnc o'' w' sig v x ∧ ∀ k,Cap o'' w' (.res k) (cmpV v k) (cmpX v x k):=by
      intro hr' hres'
      obtain ⟨y,e1,e2,e3⟩:=resK_sound hC hr' hnd hres'
      refine ⟨k5,y,e1,y,fun b => if b < w.heap.size then o b else rel (outR fn.results.toList) o' b,rfl,?_,?_,fun k => ?_⟩
      · refine ⟨k3.os,k3.tape,k3.output,k3.size,fun b hb => ⟨?_,by rw [if_pos hb]⟩,fun b hb => ?_⟩
        · refine (k3.prot b hb ?_).1
          unfold rel
          cases o b <;> trivial
        · by_cases hlt:b < w.heap.size
          · exact Nat.lt_of_lt_of_le hlt k3.size
          · rw [if_neg hlt] at hb
            refine hr'.gl.fin b fun e => hb ?_
            simp [rel,e]
      · refine e2.mono ?_ fun _ _ h => by simp at h
        intro b off x hx
        refine ⟨hx.1,fun lo p hlo => ?_⟩
        dsimp only at hlo
        split at hlo
        · rename_i hlt
          have hpr:=(k3.prot b hlt (by unfold rel; cases o b <;> trivial)).2
          have:o' b = some (lo,φ p):=by rw [hpr]; exact rel_some hlo
          exact hx.2 _ _ this
        · unfold rel at hlo
          cases hob:o' b with
          | none => simp [hob] at hlo
          | some q => simp [hob] at hlo; exact hlo.1 ▸ hx.2 q.1 q.2 (by rw [hob])
      · refine (e3 k).mapBlock fun b lo hlo => ⟨rfl,?_⟩
        rw [if_neg]
        · exact hlo
        · intro hlt
          have hpr:=(k3.prot b hlt (by unfold rel; cases o b <;> trivial)).2
          unfold rel at hlo
          rw [hpr] at hlo
          unfold rel at hlo
          cases hob:o b with
          | none => simp [hob] at hlo
          | some q => simp [hob,φ,outR] at hlo
    cases ex with
    | normal => obtain ⟨rfl,k2⟩:=k2; exact fin k2 k1
    | ret => obtain ⟨rfl,k2⟩:=k2; exact fin k2 k1
    | exit id => obtain ⟨rfl,k2⟩:=k2; simp at k1
    | panic ch => obtain ⟨u,x,rfl,k2⟩:=k2; simp at k1
    | goto l => exact k2.elim
    | outgrown => exact k2.elim
  · simp at h
end
end Go.PS
end

section
namespace Go.PS
open Go.RowKit
def single:List PV → PV
  | [v] => v
  | vs => .tup vs
def retK (C:Ctx) (m:Nat) (rs:List ResultVar) (st:St):Option (Out × List PObj) :=
  match resVs C st rs with
  | some vs => bif belowsAll m vs && belowH m (tk st.heap m) then some (.ret (single vs),tk st.heap m) else some (.ret (single vs),st.heap)
  | none => none
def panK (m:Nat) (v:DV) (h:List PObj):Option (Out × List PObj) :=
  bif belowH m (tk h m) then some (.pan v,tk h m) else some (.pan v,h)
def argsE:List PV → Option (List PV)
  | [] => some []
  | v :: l => bif isTup v then none else (match argsE l with | some vs => some (v.plain :: vs) | none => none)
noncomputable def runE (C:Ctx) (L:Lps) (n:Nat) (rs:List ResultVar) (c:Code) (args:List PV) (H:List PObj):Option (Out × List PObj) :=
  match argsE args with
  | some vs => pcodeK C L c ⟨vs ++ rep (n - args.length) .undef,H⟩ fun e st => match e with
    | .normal | .ret => retK C H.length rs st
    | .pan v => panK H.length v st.heap
    | .exit _ => none
  | none => none
section
variable {P:Program} {C:Ctx} {W0:World} {o:Own} {sig:List Nat} {st:St} {a:Act} {w:World} {R:Type} {tm:Array Value}
theorem resVs_sound (hC:TyOk P C) (hr:Rel W0 o sig st a.tmps w) {fn:Func} (hnd:nodupN (tmpsOf fn.results.toList) = true) {vs:List PV} (hvs:resVs C st fn.results.toList = some vs) :
    ∃ y,(results fn a.tmps).run P w = .ok y w ∧ PEnc o w sig (single vs) y ∧ (∀ n,belowsAll n vs = true → PEnc o w (sig.take n) (single vs) y) ∧ ∀ k,Cap (rel (outR fn.results.toList) o) w (.res k) (cmpV (single vs) k) (cmpX (single vs) y k):=by
  obtain ⟨hlen,hget⟩:=resVs_get hvs
  let F:ResultVar → Sem Value:=fun x => match x with
    | .tmp t => pure (a.tmps.getD t undef)
    | .cell b t => do loadVar t (← asAddr (a.tmps.getD b undef))
  have hex:∀ (i:Nat) v,vs[i]? = some v → ∃ y,(∀ x,fn.results.toList[i]? = some x → (F x).run P w = .ok y w) ∧ PEnc o w sig v y ∧ (∀ us,v ≠ .tup us) ∧ Cap (rel (outR fn.results.toList) o) w (.res i) v y:=by
    intro i v hv
    obtain ⟨x,hx,hxv⟩:=hget i v hv
    obtain ⟨y,h1,h2,h3,h4⟩:=resV_sound hC hr hxv
    refine ⟨y,?_,h2,h3,?_⟩
    · intro x' hx'
      rw [hx] at hx'; simp only [Option.some.injEq] at hx'; subst hx'
      exact h1
    · rcases h4 with h4 | ⟨t,rfl,h4⟩
      · exact Cap.of_noOwn h4
      · refine cap_rel h4 ?_
        have:=resAt_get (n:=0) hnd hx
        rw [Nat.zero_add] at this
        show outR _ (.slot t 0) = _
        simp only [outR,this]
  have hys:∃ ys:List Value,PEncL o w sig vs ys ∧ (∀ (i:Nat) y,ys[i]? = some y → (∀ x,fn.results.toList[i]? = some x → (F x).run P w = .ok y w) ∧ ∀ v,vs[i]? = some v → (∀ us,v ≠ .tup us) ∧ Cap (rel (outR fn.results.toList) o) w (.res i) v y):=by
    have:∀ (l:List PV) (m:Nat),(∀ (i:Nat) v,l[i]? = some v → vs[m + i]? = some v) → ∃ ys:List Value,PEncL o w sig l ys ∧ (∀ (i:Nat) y,ys[i]? = some y → (∀ x,fn.results.toList[m + i]? = some x → (F x).run P w = .ok y w) ∧ ∀ v,l[i]? = some v → (∀ us,v ≠ .tup us) ∧ Cap (rel (outR fn.results.toList) o) w (.res (m + i)) v y):=by
      intro l
      induction l with
      | nil => intro m _; exact ⟨[],.nil,fun i y h => by simp at h⟩
      | cons u l ih =>
        intro m hm
        obtain ⟨ys,h1,h2⟩:=ih (m + 1) (fun i v hv => by have:=hm (i + 1) v (by simpa using hv); rw [← this]; congr 1; omega)
        obtain ⟨y,e1,e2,e3,e4⟩:=hex m u (by have:=hm 0 u (by simp); simpa using this)
        refine ⟨y :: ys,.cons e2 h1,fun i z hz => ?_⟩
        cases i with
        | zero =>
          simp at hz; subst hz
          exact ⟨e1,fun v hv => by simp at hv; subst hv; exact ⟨e3,e4⟩⟩
        | succ i =>
          have:=h2 i z (by simpa using hz)
          rw [show m + 1 + i = m + (i + 1) by omega] at this
          exact ⟨this.1,fun v hv => this.2 v (by simpa using hv)⟩
    obtain ⟨ys,h1,h2⟩:=this vs 0 (fun i v hv => by simpa using hv)
    exact ⟨ys,h1,by simpa using h2⟩
  obtain ⟨ys,h1,h2⟩:=hys
  have hl:ys.length = fn.results.size:=by rw [← h1.length,hlen]; simp
  have hrun:(fn.results.mapM F).run P w = .ok ys.toArray w:=mapM_run hl fun i x y hx hy => (h2 i y hy).1 x (by simpa using hx)
  have hrun' : (results fn a.tmps).run P w = .ok (if h:ys.toArray.size = 1 then ys.toArray[0] else .tuple ys.toArray) w:=by
    unfold results
    rw [Sem.run_bind]
    show ((fn.results.mapM F).run P w).andThen _ = _
    rw [hrun]; rfl
  have hbl:∀ n {l:List PV} {zs:List Value},belowsAll n l = true → PEncL o w sig l zs → PEncL o w (sig.take n) l zs:=by
    intro n l
    induction l with
    | nil => intro zs _ h; cases h; exact .nil
    | cons u l ih =>
      intro zs hb h
      cases h with | cons hh t =>
      simp only [belowsAll,Bool.and_eq_true] at hb
      exact .cons (below_mono hh hb.1) (ih hb.2 t)
  unfold single
  split
  · rename_i u
    cases h1 with | cons hh t =>
    rename_i y ys
    cases t
    refine ⟨y,by rw [hrun']; simp,hh,fun n hn => ?_,fun k => ?_⟩
    · simp only [belowsAll,Bool.and_true] at hn
      exact below_mono hh hn
    have:=(h2 0 y (by simp)).2 u (by simp)
    unfold cmpV
    split
    · rename_i us; exact absurd rfl (this.1 us)
    · by_cases hk:k = 0
      · subst hk
        rw [if_pos rfl]
        have hcx:cmpX u y 0 = y:=by
          unfold cmpX; split
          · exact absurd rfl (this.1 _)
          · rfl
        rw [hcx]; exact this.2
      · rw [if_neg hk]; exact Cap.of_noOwn trivial
  · rename_i us hne
    refine ⟨.tuple ys.toArray,?_,.tup h1,fun n hn => .tup (hbl n hn h1),fun k => ?_⟩
    · rw [hrun',dif_neg]
      intro h1s
      have:vs.length = 1:=by rw [h1.length]; simpa using h1s
      obtain ⟨u,rfl⟩:=List.length_eq_one_iff.1 this
      exact hne u rfl
    · simp only [cmpV,cmpX]
      by_cases hk:k < vs.length
      · have hky:k < ys.length:=by rw [← h1.length]; exact hk
        have:=((h2 k ys[k] (by simp [hky])).2 vs[k] (by simp [hk])).2
        rw [gt_eq,List.getElem?_eq_getElem hk]
        simpa [hky] using this
      · rw [gt_eq,List.getElem?_eq_none (by omega)]; exact Cap.of_noOwn trivial
theorem argsE_enc:∀ {vs us:List PV} {xs:List Value},PEncL o w sig vs xs → argsE vs = some us → PEncL o w sig us xs ∧ us.length = vs.length ∧ ∀ j,(∀ k,(cmpV (gt .undef us j) k).noOwn):=by
  intro vs
  induction vs with
  | nil =>
    intro us xs h g
    simp [argsE] at g; subst g
    cases h
    exact ⟨.nil,rfl,fun j k => by simp only [gt,cmpV]; split <;> trivial⟩
  | cons v vs ih =>
    intro us xs h g
    cases h with | cons hh t =>
    simp only [argsE] at g
    cases hb:isTup v with
    | true => rw [hb] at g; simp at g
    | false =>
    rw [hb] at g
    simp only [cond_false] at g
    split at g
    · rename_i us' hus
      simp at g; subst g
      obtain ⟨h1,h2,h3⟩:=ih t hus
      refine ⟨.cons hh.plain h1,by simp [h2],fun j k => ?_⟩
      cases j with
      | zero => exact plain_cmp (PV.plain_noOwn v) (plain_tup fun us e => by rw [e] at hb; simp [isTup] at hb) k
      | succ j => exact h3 j k
    · simp at g
def backR (ψ:Pl → Pl) (o o' : Own):Own:=fun b =>
  match o b with
  | some (lo,.slot j k) => some (lo,.slot j k)
  | _ => rel ψ o' b
theorem leave {ψ:Pl → Pl} (h0:ψ .ext = .ext) (h1:∀ i,ψ (.obj i) = .obj i) (h2:∀ i off,ψ (.cell i off) = .cell i off) {o' : Own} {w' : World} {sig' : List Nat} {H' : List PObj}
    (hg:Gl W0 o w) (g' : Gl W0 o' w') (hst' : Step (rel inw o) w o' w') (rh' : RelH o' sig' H' w') :
    Gl W0 (backR ψ o o') w' ∧ RelH (backR ψ o o') sig' H' w' ∧ Step o w (backR ψ o o') w' ∧ (∀ b off x,Stab o' w' b off x → Stab (backR ψ o o') w' b off x) ∧ ∀ p v x,p ≠ .ext → Cap o' w' p v x → Cap (backR ψ o o') w' (ψ p) v x:=by
  let oi:Own:=rel inw o
  let o2:Own:=backR ψ o o'
  have slotted:∀ b lo j k,o b = some (lo,.slot j k) → w'.heap[b]? = w.heap[b]? ∧ o' b = some (lo,.ext):=by
    intro b lo j k hb
    have hbs:=hg.fin b (by rw [hb]; simp)
    have hoi:oi b = some (lo,.ext):=rel_some hb
    obtain ⟨e1,e2⟩:=hst'.prot b hbs (by show Prot (oi b); rw [hoi]; trivial)
    exact ⟨e1,by rw [e2]; exact hoi⟩
  have o2_other:∀ b lo p,o' b = some (lo,p) → p ≠ .ext → o2 b = some (lo,ψ p):=by
    intro b lo p hb hp
    show backR ψ o o' b = _
    unfold backR
    split
    · rename_i lo' j k hob
      rw [(slotted b lo' j k hob).2] at hb
      simp at hb; exact absurd hb.2.symm hp
    · exact rel_some hb
  have hst2' : ∀ b off x,Stab o' w' b off x → Stab o2 w' b off x:=by
    intro b off x hx
    refine ⟨hx.1,fun lo p hlo => ?_⟩
    have hlo:backR ψ o o' b = some (lo,p):=hlo
    unfold backR at hlo
    split at hlo
    · rename_i lo' j k hob
      simp at hlo
      exact hlo.1 ▸ hx.2 _ _ (slotted b lo' j k hob).2
    · unfold rel at hlo
      cases hb:o' b with
      | none => simp [hb] at hlo
      | some q => simp [hb] at hlo; exact hlo.1 ▸ hx.2 q.1 q.2 (by rw [hb])
  have hsti:∀ b off x,Stab o w b off x → Stab oi w b off x:=fun _ _ _ h => rel_stab h
  have hstep:Step o w o2 w':=by
    refine ⟨hst'.os,hst'.tape,hst'.output,hst'.size,fun b hb hp => ?_,fun b off x hx => ?_⟩
    · have hoi:oi b = o b:=by
        show rel inw o b = o b
        unfold rel
        cases hob:o b with
        | none => rfl
        | some q =>
          obtain ⟨lo,p⟩:=q
          rw [hob] at hp
          cases p <;> simp [Prot] at hp
          rfl
      obtain ⟨e1,e2⟩:=hst'.prot b hb (by show Prot (oi b); rw [hoi]; exact hp)
      refine ⟨e1,?_⟩
      show backR ψ o o' b = o b
      unfold backR
      split
      · rename_i lo' j k hob; rw [hob]
      · have e2:o' b = o b:=by rw [e2]; exact hoi
        unfold rel
        rw [e2]
        cases hob:o b with
        | none => rfl
        | some q =>
          obtain ⟨lo,p⟩:=q
          rw [hob] at hp
          cases p <;> simp [Prot] at hp
          simp [h0]
    · exact hst2' _ _ _ (hst'.stab _ _ _ (hsti _ _ _ hx))
  have hg2:Gl W0 o2 w':=by
    refine ⟨g'.size,fun b hb => ⟨(g'.keep b hb).1,?_⟩,fun b hb => ?_⟩
    · show backR ψ o o' b = none
      unfold backR
      rw [(hg.keep b hb).2]
      simp [rel,(g'.keep b hb).2]
    · by_cases hob:o b = none
      · refine g'.fin b fun e => hb ?_
        show backR ψ o o' b = none
        unfold backR; rw [hob]; simp [rel,e]
      · exact Nat.lt_of_lt_of_le (hg.fin b hob) hst'.size
  have cap2:∀ p (v:PV) (x:Value),p ≠ .ext → Cap o' w' p v x → Cap o2 w' (ψ p) v x:=fun p v x hp hcap => hcap.mapBlock fun b lo hb => ⟨rfl,o2_other b lo p hb hp⟩
  refine ⟨hg2,⟨rh'.sigl,fun id ob hid => ?_⟩,hstep,hst2',cap2⟩
  obtain ⟨b,k1,k2,k3⟩:=rh'.obj id ob hid
  refine ⟨b,k1,by rw [show backR ψ o o' b = _ from o2_other b 0 _ k2 (by simp),h1],?_⟩
  cases ob with
  | cells vs =>
    obtain ⟨arr,T,h4,h5,h6⟩:=k3
    refine ⟨arr,T,h4,h5,fun off hoff => ⟨(h6 off hoff).1.mono hst2' fun _ _ h => h,?_,(h6 off hoff).2.2⟩⟩
    have:=cap2 (.cell id off) _ _ (by simp) (h6 off hoff).2.1
    rwa [h2] at this
  | iter s pos => exact k3
theorem enter_rel {fn:Func} {args us:List PV} {H:List PObj} {xs:List Value} (hg:Gl W0 o w) (hh:RelH o sig H w) (hx:PEncL o w sig args xs) (hus:argsE args = some us) :
    Rel W0 (rel inw o) sig ⟨us ++ rep (fn.ntmps - args.length) .undef,H⟩ (xs.toArray ++ Array.replicate (fn.ntmps - xs.toArray.size) undef) w:=by
  obtain ⟨h1,h2,h3⟩:=argsE_enc hx hus
  have hst:∀ b off x,Stab o w b off x → Stab (rel inw o) w b off x:=fun _ _ _ h => rel_stab h
  have hx' : PEncL (rel inw o) w sig us xs:=h1.mono hst fun _ _ h => h
  have hxl:xs.length = us.length:=hx'.length.symm
  have hall:PEncL (rel inw o) w sig (us ++ rep (fn.ntmps - args.length) .undef) (xs ++ List.replicate (fn.ntmps - args.length) undef):=by
    refine hx'.append ?_
    rw [rep_eq]
    generalize fn.ntmps - args.length = m
    induction m with
    | zero => exact .nil
    | succ m ih => exact .cons .undef ih
  have htm:(xs.toArray ++ Array.replicate (fn.ntmps - xs.toArray.size) undef) = (xs ++ List.replicate (fn.ntmps - args.length) undef).toArray:=by
    apply Array.ext'
    simp [hxl,h2]
  rw [htm]
  refine ⟨hg.relabel inw,by have:=hall.length; simp at this ⊢; omega,fun j => ?_,fun j k => ?_,hh.relabel inw (fun _ => rfl) fun _ _ _ _ _ _ => rfl⟩
  · have:=hall.get j; simpa using this
  · refine Cap.of_noOwn ?_
    by_cases hj:j < us.length
    · have:=h3 j k
      rw [gt_eq] at this
      rw [gt_eq,List.getElem?_append_left hj]
      exact this
    · have:gt PV.undef (us ++ rep (fn.ntmps - args.length) .undef) j = .undef:=by
        rw [gt_eq,List.getElem?_append_right (by omega),rep_eq]
        cases hh:(List.replicate (fn.ntmps - args.length) PV.undef)[j - us.length]? with
        | none => rfl
        | some x => have:=List.mem_of_getElem? hh; rw [List.mem_replicate] at this; rw [this.2]; rfl
      show (cmpV (gt PV.undef (us ++ rep (fn.ntmps - args.length) .undef) j) k).noOwn
      rw [this]; unfold cmpV; dsimp only; split <;> trivial
theorem ret_post (hC:TyOk P C) {fn:Func} (hnd:nodupN (tmpsOf fn.results.toList) = true) {H H' : List PObj} {out:Out} {o' : Own} {sig' : List Nat} {st' : St} {a' : Act} {w' : World}
    (hg:Gl W0 o w) (hl:sig.length = H.length) (hr:Rel W0 o' sig' st' a'.tmps w') (hst:Step (rel inw o) w o' w') (hse:SigExt sig sig') (h:retK C H.length fn.results.toList st' = some (out,H')) :
    ∃ y,(results fn a'.tmps).run P w' = .ok y w' ∧ Post W0 o sig w out H' (.returned y) w':=by
  unfold retK at h
  split at h
  rotate_left
  · simp at h
  rename_i vs hvs
  obtain ⟨y,e1,e2,e3,e4⟩:=resVs_sound hC hr hnd hvs
  have fin:∀ sig2 H2,RelH o' sig2 H2 w' → SigExt sig sig2 → PEnc o' w' sig2 (single vs) y → Post W0 o sig w (.ret (single vs)) H2 (.returned y) w':=by
    intro sig2 H2 hrh hse2 hv
    obtain ⟨l1,l2,l3,l4,l5⟩:=leave (ψ:=outR fn.results.toList) rfl (fun _ => rfl) (fun _ _ => rfl) hg hr.gl hst hrh
    refine ⟨_,_,l1,l2,l3,hse2,hv.mono l4 fun _ _ h => h,fun k => ?_⟩
    refine (e4 k).mapBlock fun b lo hb => ⟨rfl,?_⟩
    show backR _ o o' b = _
    unfold backR
    split
    · rename_i lo' j k' hob
      have hoi:rel inw o b = some (lo',.ext):=rel_some hob
      obtain ⟨_,f2⟩:=hst.prot b (hg.fin b (by rw [hob]; simp)) (by rw [hoi]; trivial)
      rw [hoi] at f2
      rw [rel_some f2] at hb
      simp [outR] at hb
    · exact hb
  cases hb:belowsAll H.length vs && belowH H.length (tk st'.heap H.length) with
  | true =>
    rw [hb] at h
    simp only [cond_true,Option.some.injEq,Prod.mk.injEq] at h
    obtain ⟨rfl,rfl⟩:=h
    simp only [Bool.and_eq_true,tk_eq] at hb
    rw [tk_eq]
    refine ⟨y,e1,fin (sig'.take H.length) _ (hr.hp.take _ hb.2) ?_ (e3 _ hb.1)⟩
    rw [← hl]; exact hse.take
  | false =>
    rw [hb] at h
    simp only [cond_false,Option.some.injEq,Prod.mk.injEq] at h
    obtain ⟨rfl,rfl⟩:=h
    exact ⟨y,e1,fin sig' _ hr.hp hse e2⟩
theorem pan_post {H H' : List PObj} {out:Out} {o' : Own} {sig' : List Nat} {h' : List PObj} {w' : World} {v:DV} {x:Value}
    (hg:Gl W0 o w) (hl:sig.length = H.length) (hg' : Gl W0 o' w') (hrh:RelH o' sig' h' w') (hv:Enc o' w' v x) (hst:Step (rel inw o) w o' w') (hse:SigExt sig sig') (h:panK H.length v h' = some (out,H')) :
    Post W0 o sig w out H' (.panicked [{ v:=x,recovered:=false }]) w':=by
  have fin:∀ sig2 H2,RelH o' sig2 H2 w' → SigExt sig sig2 → Post W0 o sig w (.pan v) H2 (.panicked [{ v:=x,recovered:=false }]) w':=by
    intro sig2 H2 hrh2 hse2
    obtain ⟨l1,l2,l3,l4,l5⟩:=leave (ψ:=outR []) rfl (fun _ => rfl) (fun _ _ => rfl) hg hg' hst hrh2
    exact ⟨_,_,l1,l2,l3,hse2,x,hv.mono l4,rfl⟩
  unfold panK at h
  cases hb:belowH H.length (tk h' H.length) with
  | true =>
    rw [hb] at h
    simp only [cond_true,Option.some.injEq,Prod.mk.injEq] at h
    obtain ⟨rfl,rfl⟩:=h
    rw [tk_eq] at hb
    rw [tk_eq]
    refine fin (sig'.take H.length) _ (hrh.take _ hb) ?_
    rw [← hl]; exact hse.take
  | false =>
    rw [hb] at h
    simp only [cond_false,Option.some.injEq,Prod.mk.injEq] at h
    obtain ⟨rfl,rfl⟩:=h
    exact fin sig' _ hrh hse
theorem sound_of (hC : TyOk P C) (hE : EnvOk P W0 C) (hm : P.follows .mixedOrders = true) {f : FuncId} {fn : Func} (hf : P.funcs[f]? = some fn) {c : Code} (hb : fn.body = some c) (hn : (fn.name == "runtime.NumGoroutine") = false)
    (hnd:nodupN (tmpsOf fn.results.toList) = true) {L:Lps} (hL:LpsOk C L (loopsOf c)) {S:List PV → List PObj → Option (Out × List PObj)} (h:∀ args H r,S args H = some r → runE C L fn.ntmps fn.results.toList c args H = some r):Sound P W0 f S:=by
  refine ⟨enters_of hf hb hn,?_⟩
  intro args H out H' hs o sig w xs hg hh hx
  have h:=h args H _ hs
  unfold runE at h
  split at h
  rotate_left
  · simp at h
  rename_i us hus
  refine calls_of_wp hf hb ?_
  refine pcodeK_sound (a:={ tmps:=(xs.toArray ++ Array.replicate (fn.ntmps - xs.toArray.size) undef),defers:=[] }) hC hE hm c hL (enter_rel hg hh hx hus) rfl ?_ h
  intro e st' o' sig' a' w' ex k1 k2 k3 k4 k5
  cases ex with
  | normal =>
    obtain ⟨rfl,k2⟩:=k2
    obtain ⟨y,e1,e2⟩:=ret_post hC hnd hg hh.sigl k2 k3 k4 k1
    exact ⟨k5,y,e1,e2⟩
  | ret =>
    obtain ⟨rfl,k2⟩:=k2
    obtain ⟨y,e1,e2⟩:=ret_post hC hnd hg hh.sigl k2 k3 k4 k1
    exact ⟨k5,y,e1,e2⟩
  | exit id => obtain ⟨rfl,k2⟩:=k2; simp at k1
  | panic ch =>
    obtain ⟨v,x,rfl,k2,k6,k7,rfl⟩:=k2
    exact ⟨k5,pan_post hg hh.sigl k7 k6 k2 k3 k4 k1⟩
  | goto l => exact k2.elim
  | outgrown => exact k2.elim
end
end Go.PS
end

section
namespace Go.PS
open Go.RowKit
def sz0 (P:Program) (t:TypeId):Nat:=match P.info? t with | some i => i.size | none => 0
def arrOk (P:Program) (n0:Nat) (e:TypeId):Bool :=
  match P.underlying e with
  | some (.array _ _) => false
  | some _ => !Nat.beq (sz0 P e) 0 && Nat.ble (e + 1) n0
  | none => false
def sizeOfD (P:Program) (n0:Nat) (t:TypeId):TypeDesc → Nat
  | .array _ e => bif arrOk P n0 e then sz0 P t else 0
  | _ => sz0 P t
def tySize (P:Program) (n0:Nat) (t:TypeId):Nat :=
  match P.underlying t with
  | some d => sizeOfD P n0 t d
  | none => 0
def fieldsOf (fs:Array Field):List (Nat × TypeId):=fs.toList.map fun f => (f.offset,f.type)
def tyOfD (P:Program) (n0:Nat):TypeDesc → Ty
  | .int k => .int k
  | .bool => .bool
  | .string => .str
  | .slice e => bif !Nat.beq (tySize P n0 e) 0 && Nat.ble (e + 1) n0 then .slice e else .other
  | .struct fs => .struct (fieldsOf fs)
  | .array n e => bif arrOk P n0 e then .array n e else .other
  | .pointer e => .ptr e
  | .interface _ => .iface
  | .func _ _ _ => .func
  | _ => .other
def tyD (P:Program) (n0:Nat) (t:TypeId):Ty :=
  match P.underlying t with
  | some d => tyOfD P n0 d
  | none => .other
def matchZ:DV → Value → Bool
  | .int k n,.int k' n' => k == k' && decide (n = n')
  | .bool b,.bool b' => b == b'
  | .str [],.string s => Nat.beq s.data.toList.length 0
  | .nils _,.slice none 0 0 => true
  | .nilp,.pointer none => true
  | .nilf,.nilFunc => true
  | .nili,.nilIface => true
  | _,_ => false
def matchZs:List DV → List Value → Bool
  | [],[] => true
  | v :: vs,x :: xs => matchZ v x && matchZs vs xs
  | _,_ => false
def zeroL (P:Program) (n0:Nat):Nat → TypeId → Option (List DV)
  | 0,_ => none
  | d + 1,t => match tyD P n0 t with
    | .int k => some [.int k 0]
    | .bool => some [.bool false]
    | .str => some [.str []]
    | .slice e => some [.nils (tySize P n0 e)]
    | .ptr _ => some [.nilp]
    | .func => some [.nilf]
    | .iface => some [.nili]
    | .struct fs => fs.foldl (fun acc f => match acc,zeroL P n0 d f.2 with | some l,some r => some (l ++ r) | _,_ => none) (some [])
    | .array n e => match zeroL P n0 d e with | some r => some (List.replicate n r).flatten | none => none
    | .other => none
def placesB (P:Program) (n0:Nat):List (Nat × TypeId) → Bool
  | [] => true
  | p :: l => (match P.info? p.2 with | some i => Nat.beq i.size (tySize P n0 p.2) && Nat.ble (p.2 + 1) n0 | none => false) && placesB P n0 l
def tyZero (P:Program) (n0:Nat) (t:TypeId):List DV :=
  match P.info? t,zeroL P n0 20 t with
  | some i,some l => match i.zero with
    | some z => match (tyD P n0 t) with
      | .struct fs => (match z with
        | .agg cs => bif matchZs l cs.toList && Nat.beq l.length (tySize P n0 t) && placesB P n0 fs && Nat.beq i.size (tySize P n0 t) then l else []
        | _ => [])
      | .array _ _ => (match z with
        | .agg cs => bif matchZs l cs.toList && Nat.beq l.length (tySize P n0 t) && Nat.beq i.size (tySize P n0 t) then l else []
        | _ => [])
      | _ => (match l with
        | [v] => bif matchZ v z && Nat.beq (tySize P n0 t) 1 && Nat.beq i.size 1 then [v] else []
        | _ => [])
    | none => []
  | _,_ => []
def tyBytes (P:Program) (t:TypeId):Nat:=match P.info? t with | some i => i.bytes | none => 0
def tyI (P:Program) (n0:Nat) (t:TypeId):TyI:=⟨tyD P n0 t,tySize P n0 t,tyBytes P t,tyZero P n0 t⟩
def tyTab (P:Program) (n0:Nat):Nat → Nat → List TyI
  | 0,_ => []
  | n + 1,t => tyI P n0 t :: tyTab P n0 n (t + 1)
theorem tyTab_get (P:Program) (n0:Nat):∀ n s i,(tyTab P n0 n s)[i]? = if i < n then some (tyI P n0 (s + i)) else none:=by
  intro n
  induction n with
  | zero => intro s i; simp [tyTab]
  | succ n ih =>
    intro s i
    cases i with
    | zero => simp [tyTab]
    | succ i =>
      simp only [tyTab,List.getElem?_cons_succ,ih,Nat.add_lt_add_iff_right]
      rw [show s + 1 + i = s + (i + 1) by omega]
variable {P:Program} {n0:Nat}
theorem matchZ_enc {v:DV} {x:Value} (h:matchZ v x = true) (o:Own) (w:World):Enc o w v x ∧ v.scalar = true ∧ ∀ cs,x ≠ .agg cs:=by
  unfold matchZ at h
  split at h
  · simp at h
    obtain ⟨rfl,rfl⟩:=h
    exact ⟨.int _ _,rfl,by simp⟩
  · simp at h; subst h; exact ⟨.bool _,rfl,by simp⟩
  · rename_i s
    have:s = ⟨(List.toArray [])⟩:=by
      have:=Nat.eq_of_beq_eq_true h
      obtain ⟨⟨l⟩⟩:=s
      simp at this; subst this; rfl
    rw [this]
    exact ⟨.str [] (by simp),rfl,by simp⟩
  · exact ⟨.nils _,rfl,by simp⟩
  · exact ⟨.nilp,rfl,by simp⟩
  · exact ⟨.nilf,rfl,by simp⟩
  · exact ⟨.nili,rfl,by simp⟩
  · simp at h
theorem matchZs_enc:∀ {vs:List DV} {xs:List Value},matchZs vs xs = true → ∀ (o:Own) (w:World),EncL o w vs xs ∧ ∀ v ∈ vs,v.scalar = true:=by
  intro vs
  induction vs with
  | nil => intro xs h o w; cases xs with | nil => exact ⟨.nil,by simp⟩ | cons x xs => simp [matchZs] at h
  | cons v vs ih =>
    intro xs h o w
    cases xs with
    | nil => simp [matchZs] at h
    | cons x xs =>
      simp only [matchZs,Bool.and_eq_true] at h
      obtain ⟨h1,h2⟩:=ih h.2 o w
      obtain ⟨h3,h4,_⟩:=matchZ_enc h.1 o w
      exact ⟨.cons h3 h1,by simpa using ⟨h4,h2⟩⟩
theorem underlying_info {t:TypeId} {d:TypeDesc} (h:P.underlying t = some d):∃ i,P.info? t = some i:=by
  unfold Program.underlying at h
  cases hi:P.info? t with
  | none => rw [hi] at h; simp at h
  | some i => exact ⟨i,rfl⟩
theorem nbeq0 {n:Nat}:Nat.beq n 0 = false ↔ n ≠ 0:=by
  constructor
  · rintro h rfl; simp at h
  · intro h
    cases hb:Nat.beq n 0
    · rfl
    · exact absurd (Nat.eq_of_beq_eq_true hb) h
theorem arrOk_size {e:TypeId} (h:arrOk P n0 e = true):tySize P n0 e ≠ 0 ∧ e < n0:=by
  unfold arrOk at h
  unfold tySize
  cases hu:P.underlying e with
  | none => rw [hu] at h; simp at h
  | some d =>
    rw [hu] at h
    have fin:(!Nat.beq (sz0 P e) 0 && Nat.ble (e + 1) n0) = true → sz0 P e ≠ 0 ∧ e < n0:=by
      intro h
      simp only [Bool.and_eq_true,Bool.not_eq_true'] at h
      exact ⟨nbeq0.1 h.1,Nat.le_of_ble_eq_true h.2⟩
    cases d <;> simp only [sizeOfD] at h ⊢ <;> first | exact fin h | cases h
theorem tySize_info {t:TypeId} (h:tySize P n0 t ≠ 0):∃ i,P.info? t = some i ∧ i.size = tySize P n0 t ∧ ∃ d,P.underlying t = some d ∧ tySize P n0 t = sizeOfD P n0 t d:=by
  cases hu:P.underlying t with
  | none => unfold tySize at h; rw [hu] at h; simp at h
  | some d =>
    obtain ⟨i,hi⟩:=underlying_info hu
    have he:tySize P n0 t = sizeOfD P n0 t d:=by unfold tySize; rw [hu]
    refine ⟨i,hi,?_,d,rfl,he⟩
    have hs:sz0 P t = i.size:=by unfold sz0; rw [hi]
    rw [he] at h ⊢
    cases d <;> simp only [sizeOfD] at h ⊢ <;> try exact hs.symm
    rename_i n e
    cases ha:arrOk P n0 e
    · rw [ha] at h; simp at h
    · exact hs.symm
theorem tyD_some {t:TypeId} {d:TypeDesc} (h:P.underlying t = some d):tyD P n0 t = tyOfD P n0 d:=by unfold tyD; rw [h]
theorem tyD_inv (t:TypeId):match tyD P n0 t with
    | .int k => P.underlying t = some (.int k)
    | .bool => P.underlying t = some .bool
    | .str => P.underlying t = some .string
    | .slice e => P.underlying t = some (.slice e) ∧ tySize P n0 e ≠ 0 ∧ e < n0
    | .struct fs => ∃ F,P.underlying t = some (.struct F) ∧ fieldsOf F = fs
    | .array n e => P.underlying t = some (.array n e) ∧ tySize P n0 e ≠ 0 ∧ e < n0
    | .ptr e => P.underlying t = some (.pointer e)
    | .iface => ∃ ms,P.underlying t = some (.interface ms)
    | .func => ∃ a b c,P.underlying t = some (.func a b c)
    | .other => True:=by
  cases hu:P.underlying t with
  | none =>
    have:tyD P n0 t = .other:=by unfold tyD; rw [hu]
    rw [this]; trivial
  | some d =>
    rw [tyD_some hu]
    cases d <;> simp only [tyOfD] <;> try trivial
    · rename_i e
      cases hb:(!Nat.beq (tySize P n0 e) 0 && Nat.ble (e + 1) n0)
      · trivial
      · simp only [Bool.and_eq_true,Bool.not_eq_true'] at hb
        exact ⟨rfl,nbeq0.1 hb.1,Nat.le_of_ble_eq_true hb.2⟩
    · rename_i n e
      cases hb:arrOk P n0 e
      · trivial
      · exact ⟨rfl,arrOk_size hb⟩
    · exact ⟨_,rfl,rfl⟩
    · exact ⟨_,_,_,rfl⟩
    · exact ⟨_,rfl⟩
theorem tyD_agg (t:TypeId) (w:World) (h:tySize P n0 t ≠ 0):(isAgg t).run P w = .ok (!isScalar (tyD P n0 t)) w:=by
  obtain ⟨i,_,_,d,hd,he⟩:=tySize_info h
  rw [tyD_some hd]
  have hs:(isAgg t).run P w = .ok (match d with | .struct _ | .array _ _ => true | _ => false) w:=by
    simp only [isAgg,Sem.run_bind,run_underlying hd,Result.andThen_ok]
    cases d <;> simp
  rw [hs]
  congr 1
  rw [he] at h
  cases d <;> simp only [tyOfD,sizeOfD] at h ⊢ <;> try rfl
  · rename_i e; cases (!Nat.beq (tySize P n0 e) 0 && Nat.ble (e + 1) n0) <;> rfl
  · rename_i n e
    cases ha:arrOk P n0 e
    · rw [ha] at h; simp at h
    · rfl
theorem placesB_spec:∀ {l:List (Nat × TypeId)},placesB P n0 l = true → ∀ p ∈ l,∃ i,P.info? p.2 = some i ∧ i.size = tySize P n0 p.2 ∧ p.2 < n0:=by
  intro l
  induction l with
  | nil => intro _ p hp; simp at hp
  | cons q l ih =>
    intro h p hp
    simp only [placesB,Bool.and_eq_true] at h
    rcases List.mem_cons.1 hp with rfl | hp
    · obtain ⟨h1,_⟩:=h
      split at h1
      · rename_i i hi; simp only [Bool.and_eq_true] at h1; exact ⟨i,hi,Nat.eq_of_beq_eq_true h1.1,Nat.le_of_ble_eq_true h1.2⟩
      · simp at h1
    · exact ih h.2 p hp
theorem tyZero_spec {t:TypeId} (h:tyZero P n0 t ≠ []):∃ i z,P.info? t = some i ∧ i.zero = some z ∧ i.size = tySize P n0 t ∧ (tyZero P n0 t).length = tySize P n0 t ∧
    (match tyD P n0 t with
    | .struct fs => ∃ cs,z = .agg cs ∧ matchZs (tyZero P n0 t) cs.toList = true ∧ placesB P n0 fs = true
    | .array _ _ => ∃ cs,z = .agg cs ∧ matchZs (tyZero P n0 t) cs.toList = true
    | _ => ∃ v,tyZero P n0 t = [v] ∧ matchZ v z = true):=by
  generalize hz:tyZero P n0 t = Z at h ⊢
  unfold tyZero at hz
  split at hz
  · rename_i i l hi hl
    split at hz
    · rename_i z hzz
      refine ⟨i,z,hi,hzz,?_⟩
      split at hz
      · rename_i fs hfs
        split at hz
        · rename_i cs
          cases hb:(matchZs l cs.toList && Nat.beq l.length (tySize P n0 t) && placesB P n0 fs && Nat.beq i.size (tySize P n0 t))
          · rw [hb] at hz; exact absurd hz.symm h
          · rw [hb] at hz
            have hz:l = Z:=hz
            subst hz
            simp only [Bool.and_eq_true] at hb
            exact ⟨Nat.eq_of_beq_eq_true hb.2,Nat.eq_of_beq_eq_true hb.1.1.2,cs,rfl,hb.1.1.1,hb.1.2⟩
        · exact absurd hz.symm h
      · rename_i n e hfs
        split at hz
        · rename_i cs
          cases hb:(matchZs l cs.toList && Nat.beq l.length (tySize P n0 t) && Nat.beq i.size (tySize P n0 t))
          · rw [hb] at hz; exact absurd hz.symm h
          · rw [hb] at hz
            have hz:l = Z:=hz
            subst hz
            simp only [Bool.and_eq_true] at hb
            exact ⟨Nat.eq_of_beq_eq_true hb.2,Nat.eq_of_beq_eq_true hb.1.2,cs,rfl,hb.1.1⟩
        · exact absurd hz.symm h
      · rename_i h1 h2
        split at hz
        · rename_i v
          cases hb:(matchZ v z && Nat.beq (tySize P n0 t) 1 && Nat.beq i.size 1)
          · rw [hb] at hz; exact absurd hz.symm h
          · rw [hb] at hz
            have hz:[v] = Z:=hz
            subst hz
            simp only [Bool.and_eq_true] at hb
            have e1:=Nat.eq_of_beq_eq_true hb.1.2
            have e2:=Nat.eq_of_beq_eq_true hb.2
            exact ⟨by rw [e1,e2],by rw [e1]; rfl,v,rfl,hb.1.1⟩
        · exact absurd hz.symm h
    · exact absurd hz.symm h
  · exact absurd hz.symm h
def EqOk (P:Program) (z:List DV) (t:TypeId):Prop:=P.eqGuardType P.depth t = false ∧ ∀ (a b:List DV) (r:Bool) (xs ys:List Value) (o:Own) (w:World),kindsB z a = true → eqCells a b = some r → EncL o w a xs → EncL o w b ys →
    (Op.equalIn 10000 t (.agg xs.toArray) (.agg ys.toArray)).run P w = .ok r w
theorem zeroDV_tyI (t:TypeId) (h:tyZero P n0 t ≠ []):∃ i z,P.info? t = some i ∧ i.zero = some z ∧ i.size = tySize P n0 t ∧ (tyZero P n0 t).length = tySize P n0 t ∧ (∀ o w,Enc o w (zeroDV (tyI P n0 t)) z) ∧ (zeroDV (tyI P n0 t)).cells = tyZero P n0 t:=by
  obtain ⟨i,z,h1,h2,h3,h4,h5⟩:=tyZero_spec h
  refine ⟨i,z,h1,h2,h3,h4,?_⟩
  have key:(isScalar (tyD P n0 t) = false ∧ ∃ cs,z = .agg cs ∧ matchZs (tyZero P n0 t) cs.toList = true) ∨ (isScalar (tyD P n0 t) = true ∧ ∃ v,tyZero P n0 t = [v] ∧ matchZ v z = true):=by
    split at h5
    · rename_i fs hfs
      obtain ⟨cs,e1,e2,_⟩:=h5
      exact .inl ⟨by rw [hfs]; rfl,cs,e1,e2⟩
    · rename_i n e hfs
      obtain ⟨cs,e1,e2⟩:=h5
      exact .inl ⟨by rw [hfs]; rfl,cs,e1,e2⟩
    · rename_i h6 h7
      obtain ⟨v,e1,e2⟩:=h5
      refine .inr ⟨?_,v,e1,e2⟩
      cases hd:tyD P n0 t <;> first | rfl | (exfalso; rename_i fs; exact h6 fs hd) | (exfalso; rename_i n e; exact h7 n e hd)
  rcases key with ⟨hs,cs,rfl,hm⟩ | ⟨hs,v,hv,hm⟩
  · have:zeroDV (tyI P n0 t) = .agg (tyZero P n0 t):=by simp [zeroDV,tyI,hs]
    rw [this]
    refine ⟨fun o w => ?_,rfl⟩
    obtain ⟨e1,e2⟩:=matchZs_enc hm o w
    have:=Enc.agg _ _ e1 e2
    simpa using this
  · have:zeroDV (tyI P n0 t) = v:=by simp [zeroDV,tyI,hs,hv]
    rw [this,hv]
    refine ⟨fun o w => (matchZ_enc hm o w).1,?_⟩
    have:=(matchZ_enc hm (fun _ => none) default).2.1
    cases v <;> first | rfl | simp [DV.scalar] at this
theorem tyOk_of {C:Ctx} {n:Nat} (htys:C.tys = tyTab P n n 0) (heq:∀ t,memN t C.eqs = true → EqOk P (C.ty t).zero t):TyOk P C:=by
  have hty:∀ t,C.ty t = if t < n then tyI P n t else ⟨.other,0,0,[]⟩:=by
    intro t
    unfold Ctx.ty
    rw [gt_eq,htys,tyTab_get]
    split <;> simp
  have low:∀ t,(C.ty t).ty ≠ .other ∨ (C.ty t).size ≠ 0 ∨ (C.ty t).zero ≠ [] → C.ty t = tyI P n t:=by
    intro t h
    rw [hty] at h ⊢
    by_cases ht:t < n
    · rw [if_pos ht]
    · rw [if_neg ht] at h; simp at h
  have inv:∀ t x,(C.ty t).ty = x → x ≠ .other → tyD P n t = x:=by
    intro t x h hx
    have:=low t (.inl (by rw [h]; exact hx))
    rw [this] at h; exact h
  have size_eq:∀ e,e < n → (C.ty e).size = tySize P n e:=by
    intro e h
    rw [hty,if_pos h]; rfl
  have sz:∀ t,(C.ty t).size ≠ 0 → C.ty t = tyI P n t ∧ tySize P n t ≠ 0:=by
    intro t h
    have:=low t (.inr (.inl h))
    rw [this] at h
    exact ⟨this,h⟩
  have zr:∀ t,(C.ty t).zero ≠ [] → C.ty t = tyI P n t ∧ tyZero P n t ≠ []:=by
    intro t h
    have:=low t (.inr (.inr h))
    rw [this] at h
    exact ⟨this,h⟩
  refine ⟨?_,?_,?_,?_,?_,?_,?_,?_,?_,?_,?_,?_,?_,?_,?_,?_,?_⟩
  · intro t k h
    have:=tyD_inv (P:=P) (n0:=n) t; rw [inv t _ h (by simp)] at this; exact this
  · intro t h
    have:=tyD_inv (P:=P) (n0:=n) t; rw [inv t _ h (by simp)] at this; exact this
  · intro t h
    have:=tyD_inv (P:=P) (n0:=n) t; rw [inv t _ h (by simp)] at this; exact this
  · intro t e h
    have:=tyD_inv (P:=P) (n0:=n) t; rw [inv t _ h (by simp)] at this; exact ⟨this.1,by rw [size_eq e this.2.2]; exact this.2.1⟩
  · intro t fs h
    have:=tyD_inv (P:=P) (n0:=n) t; rw [inv t _ h (by simp)] at this; exact this
  · intro t m e h
    have:=tyD_inv (P:=P) (n0:=n) t; rw [inv t _ h (by simp)] at this; exact ⟨this.1,by rw [size_eq e this.2.2]; exact this.2.1⟩
  · intro t e h
    have:=tyD_inv (P:=P) (n0:=n) t; rw [inv t _ h (by simp)] at this; exact this
  · intro t h
    have:=tyD_inv (P:=P) (n0:=n) t; rw [inv t _ h (by simp)] at this; exact this
  · intro t h
    have:=tyD_inv (P:=P) (n0:=n) t; rw [inv t _ h (by simp)] at this; exact this
  · intro t h
    obtain ⟨h1,h2⟩:=sz t h
    obtain ⟨i,e1,e2,_⟩:=tySize_info h2
    rw [h1]
    exact ⟨i,e1,e2,by simp [tyI,tyBytes,e1]⟩
  · intro t w h
    obtain ⟨h1,h2⟩:=sz t h
    rw [h1]; exact tyD_agg t w h2
  · intro t h
    obtain ⟨h1,h2⟩:=zr t h
    obtain ⟨i,z,e1,e2,e3,_,e5,_⟩:=zeroDV_tyI t h2
    rw [h1]
    exact ⟨i,z,e1,e2,e3,e5⟩
  · exact heq
  · intro t fs h hz
    obtain ⟨h1,h2⟩:=zr t hz
    obtain ⟨i,z,_,_,_,_,h5⟩:=tyZero_spec h2
    rw [inv t _ h (by simp)] at h5
    obtain ⟨cs,_,_,hp⟩:=h5
    have:=tyD_inv (P:=P) (n0:=n) t
    rw [inv t _ h (by simp)] at this
    obtain ⟨F,hF,rfl⟩:=this
    refine ⟨F,hF,?_⟩
    have key:∀ l:List Field,(∀ f ∈ l,∃ i,P.info? f.type = some i ∧ i.size = tySize P n f.type ∧ f.type < n) →
        l.mapM (fun f => (P.info? f.type).map fun i => (f.offset,i.size)) = some ((l.map fun f => (f.offset,f.type)).map fun p => (p.1,(C.ty p.2).size)):=by
      intro l
      induction l with
      | nil => intro _; rfl
      | cons f l ih =>
        intro h
        obtain ⟨i,e1,e2,e3⟩:=h f (List.mem_cons_self ..)
        rw [List.mapM_cons,ih fun g hg => h g (List.mem_cons_of_mem _ hg)]
        simp [e1,e2,size_eq _ e3]
    refine key _ fun f hf => ?_
    obtain ⟨i,e⟩:=placesB_spec hp (f.offset,f.type) (List.mem_map.2 ⟨f,hf,rfl⟩)
    exact ⟨i,e⟩
  · intro t h1 h2
    have hD:=inv t _ rfl h2
    have:=tyD_inv (P:=P) (n0:=n) t
    rw [hD] at this
    unfold Program.concrete
    revert this
    cases hd:(C.ty t).ty <;> intro this
    case iface => exact absurd hd h1
    case other => exact absurd hd h2
    case struct => obtain ⟨F,hF,_⟩:=this; rw [hF]
    case func => obtain ⟨a,b,c,hF⟩:=this; rw [hF]
    case slice => rw [this.1]
    case array => rw [this.1]
    all_goals rw [this]
  · intro t h
    obtain ⟨h1,h2⟩:=zr t h
    obtain ⟨i,z,_,_,_,e4,_,e6⟩:=zeroDV_tyI t h2
    rw [h1,e6]; exact e4
  · intro t h
    obtain ⟨h1,h2⟩:=zr t h
    obtain ⟨i,z,_,_,_,_,_,e6⟩:=zeroDV_tyI t h2
    rw [h1,e6]; rfl
end Go.PS
end

section
namespace Go.PS
open Go.RowKit
def eqKindsL (P:Program) (k:TypeId → Option (List DV)):Nat → List Field → Option (List DV)
  | _,[] => some []
  | off, f :: l => bif f.name != "_" && Nat.beq f.offset off then (match k f.type with
    | some z => (match P.info? f.type with
      | some i => bif Nat.beq i.size z.length then (match eqKindsL P k (off + z.length) l with
        | some r => some (z ++ r)
        | none => none) else none
      | none => none)
    | none => none) else none
def eqKinds (P:Program):Nat → TypeId → Option (List DV)
  | 0,_ => none
  | d + 1,t => match P.underlying t with
    | some .bool => some [.bool false]
    | some (.int k) => some [.int k 0]
    | some .string => some [.str []]
    | some (.struct fs) => bif !P.stoodInHeld t then eqKindsL P (eqKinds P d) 0 fs.toList else none
    | _ => none
section
variable {P:Program} {o:Own} {w:World}
theorem kindsB_append {z1 z2 a:List DV} (h:kindsB (z1 ++ z2) a = true):∃ a1 a2,a = a1 ++ a2 ∧ kindsB z1 a1 = true ∧ kindsB z2 a2 = true ∧ a1.length = z1.length:=by
  induction z1 generalizing a with
  | nil => exact ⟨[],a,rfl,rfl,h,rfl⟩
  | cons z z1 ih =>
    cases a with
    | nil => cases z <;> simp [kindsB] at h
    | cons x a =>
      have key:kindsB (z1 ++ z2) a = true ∧ ∀ a1,kindsB z1 a1 = true → kindsB (z :: z1) (x :: a1) = true:=by
        cases z <;> cases x <;> simp [kindsB] at h ⊢ <;> first | exact h | exact ⟨h.2,fun _ g => ⟨h.1,g⟩⟩
      obtain ⟨a1,a2,h1,h2,h3,h4⟩:=ih key.1
      exact ⟨x :: a1,a2,by simp [h1],key.2 _ h2,h3,by simp [h4]⟩
theorem eqCells_append {a1 a2 b:List DV} {r:Bool} (h:eqCells (a1 ++ a2) b = some r):∃ b1 b2 r1 r2,b = b1 ++ b2 ∧ eqCells a1 b1 = some r1 ∧ eqCells a2 b2 = some r2 ∧ r = (r1 && r2):=by
  induction a1 generalizing b r with
  | nil => exact ⟨[],b,true,r,rfl,rfl,h,by simp⟩
  | cons x a1 ih =>
    cases b with
    | nil => cases x <;> simp [eqCells] at h
    | cons y b =>
      have key:∃ e r',eqCells (a1 ++ a2) b = some r' ∧ r = (e && r') ∧ ∀ b1 r1,eqCells a1 b1 = some r1 → eqCells (x :: a1) (y :: b1) = some (e && r1):=by
        cases x <;> cases y <;> simp only [List.cons_append,eqCells] at h
        case int.int k m k' m' =>
          by_cases hk:(k == k') = true
          · rw [hk] at h
            simp only [cond_true] at h
            split at h
            · rename_i t ht
              simp at h; subst h
              refine ⟨_,t,ht,rfl,fun b1 r1 h1 => ?_⟩
              simp only [eqCells,hk,cond_true,h1]
            · simp at h
          · simp only [Bool.not_eq_true] at hk
            rw [hk] at h; simp at h
        case str.str =>
          split at h
          · rename_i t ht
            simp at h; subst h
            exact ⟨_,t,ht,rfl,fun b1 r1 h1 => by simp only [eqCells,h1]⟩
          · simp at h
        case bool.bool =>
          split at h
          · rename_i t ht
            simp at h; subst h
            exact ⟨_,t,ht,rfl,fun b1 r1 h1 => by simp only [eqCells,h1]⟩
          · simp at h
        all_goals (simp at h)
      obtain ⟨e,r',h1,h2,h3⟩:=key
      obtain ⟨b1,b2,r1,r2,k1,k2,k3,k4⟩:=ih h1
      exact ⟨y :: b1,b2,e && r1,r2,by simp [k1],h3 _ _ k2,k3,by rw [h2,k4,Bool.and_assoc]⟩
theorem eqCells_length {a b:List DV} {r:Bool} (h:eqCells a b = some r):a.length = b.length:=by
  induction a generalizing b r with
  | nil => cases b <;> simp [eqCells] at h ⊢
  | cons x a ih =>
    cases b with
    | nil => cases x <;> simp [eqCells] at h
    | cons y b =>
      have:∃ r',eqCells a b = some r':=by
        cases x <;> cases y <;> simp only [eqCells] at h
        case int.int k m k' m' =>
          cases hk:k == k' <;> rw [hk] at h
          · simp at h
          · simp only [cond_true] at h
            split at h
            · exact ⟨_,by assumption⟩
            · simp at h
        case str.str =>
          split at h
          · exact ⟨_,by assumption⟩
          · simp at h
        case bool.bool =>
          split at h
          · exact ⟨_,by assumption⟩
          · simp at h
        all_goals (simp at h)
      obtain ⟨r',h'⟩:=this
      simp [ih h']
theorem EncL.split {a1 a2:List DV} {xs:List Value} (h:EncL o w (a1 ++ a2) xs):∃ x1 x2,xs = x1 ++ x2 ∧ EncL o w a1 x1 ∧ EncL o w a2 x2:=by
  induction a1 generalizing xs with
  | nil => exact ⟨[],xs,rfl,.nil,h⟩
  | cons v a1 ih =>
    cases h with | cons hh t =>
    obtain ⟨x1,x2,e,h1,h2⟩:=ih t
    exact ⟨_ :: x1,x2,by rw [e]; rfl,.cons hh h1,h2⟩
def mkv (P:Program) (t:TypeId) (xs:List Value):Value :=
  match P.underlying t with
  | some (.struct _) => .agg xs.toArray
  | _ => xs.headD undef
theorem baEq (a b:List UInt8):((⟨a.toArray⟩:ByteArray) == ⟨b.toArray⟩) = decide (a = b):=by
  rw [beq_toListBytes,str_toList,str_toList,lbeq]
theorem eq_pair (d:Nat):(∀ t z,eqKinds P d t = some z → ∀ d',d ≤ d' → ∀ (a b:List DV) (r:Bool) (xs ys:List Value),kindsB z a = true → eqCells a b = some r → EncL o w a xs → EncL o w b ys →
      (Op.equalIn d' t (mkv P t xs) (mkv P t ys)).run P w = .ok r w) ∧
    (∀ (l:List Field) off z,eqKindsL P (eqKinds P d) off l = some z → ∀ d',d ≤ d' → ∀ (X Y:Array Value) (a b:List DV) (r:Bool) (xs ys:List Value),kindsB z a = true → eqCells a b = some r → EncL o w a xs → EncL o w b ys → X.toList.drop off = xs → Y.toList.drop off = ys →
      (Op.eqFields d' X Y l).run P w = .ok r w):=by
  induction d with
  | zero =>
    refine ⟨fun t z h => by simp [eqKinds] at h,fun l off z h d' _ X Y a b r xs ys hk he hx hy _ _ => ?_⟩
    cases l with
    | nil =>
      simp [eqKindsL] at h; subst h
      cases a <;> simp [kindsB] at hk
      cases b <;> simp [eqCells] at he
      subst he
      simp [Op.eqFields]
    | cons f l =>
      simp only [eqKindsL] at h
      cases hb : (f.name != "_" && Nat.beq f.offset off) <;> rw [hb] at h <;> simp [eqKinds] at h
  | succ d ih =>
    have H1:∀ t z,eqKinds P (d + 1) t = some z → ∀ d',d + 1 ≤ d' → ∀ (a b:List DV) (r:Bool) (xs ys:List Value),kindsB z a = true → eqCells a b = some r → EncL o w a xs → EncL o w b ys →
      (Op.equalIn d' t (mkv P t xs) (mkv P t ys)).run P w = .ok r w:=by
      intro t z h d' hd a b r xs ys hk he hx hy
      obtain ⟨d',rfl⟩:∃ e,d' = e + 1:=⟨d' - 1,by omega⟩
      simp only [eqKinds] at h
      split at h
      · rename_i hu
        simp at h; subst h
        cases hx with
        | nil => simp [kindsB] at hk
        | cons h1 t1 =>
        cases h1 <;> simp [kindsB] at hk
        rename_i p
        cases hy with
        | nil => simp [eqCells] at he
        | cons h2 t2 =>
        cases h2 <;> simp only [eqCells] at he <;> (try (simp at he; done))
        cases t1 with | cons => simp [kindsB] at hk | nil =>
        cases t2 with | cons => simp [eqCells] at he | nil =>
        simp [eqCells] at he; subst he
        simp [mkv,hu,Op.equalIn,run_underlying hu]
      · rename_i k hu
        simp at h; subst h
        cases hx with
        | nil => simp [kindsB] at hk
        | cons h1 t1 =>
        cases h1 <;> simp [kindsB] at hk
        rename_i k1 m1
        cases hy with
        | nil => simp [eqCells] at he
        | cons h2 t2 =>
        cases h2 <;> simp only [eqCells] at he <;> (try (simp at he; done))
        rename_i k2 m2
        cases t1 with | cons => simp [kindsB] at hk | nil =>
        cases t2 with | cons => cases hkk:(k1 == k2) <;> rw [hkk] at he <;> simp [eqCells] at he | nil =>
        cases hkk:(k1 == k2) with
        | false => rw [hkk] at he; simp at he
        | true =>
        rw [hkk] at he
        simp [eqCells] at he; subst he
        have:k1 = k2:=by simpa using hkk
        subst this
        simp [mkv,hu,Op.equalIn,run_underlying hu]
        rfl
      · rename_i hu
        simp at h; subst h
        cases hx with
        | nil => simp [kindsB] at hk
        | cons h1 t1 =>
        cases h1 <;> simp [kindsB] at hk
        rename_i s1 hs1
        cases hy with
        | nil => simp [eqCells] at he
        | cons h2 t2 =>
        cases h2 <;> simp only [eqCells] at he <;> (try (simp at he; done))
        rename_i s2 hs2
        cases t1 with | cons => simp [kindsB] at hk | nil =>
        cases t2 with | cons => simp [eqCells] at he | nil =>
        simp only [eqCells,Bool.and_true,Option.some.injEq] at he
        subst he
        simp [mkv,hu,Op.equalIn,run_underlying hu,baEq]
      · rename_i fs hu
        rw [bif_some] at h
        obtain ⟨hs,h⟩:=h
        have hfs:P.fieldsOf t = fs:=by simp [Program.fieldsOf,hu]
        have hm:∀ l,mkv P t l = .agg l.toArray:=fun l => by simp [mkv,hu]
        rw [hm,hm,run_equalIn_struct w d' t _ _ (by rw [hfs]; exact hu) (by simpa using hs),hfs]
        exact ih.2 fs.toList 0 z h d' (by omega) _ _ a b r xs ys hk he hx hy (by simp) (by simp)
      · simp at h
    refine ⟨H1,?_⟩
    intro l
    induction l with
    | nil =>
      intro off z h d' _ X Y a b r xs ys hk he hx hy _ _
      simp [eqKindsL] at h; subst h
      cases a <;> simp [kindsB] at hk
      cases b <;> simp [eqCells] at he
      subst he
      simp [Op.eqFields]
    | cons f l ihl =>
      intro off z h d' hd X Y a b r xs ys hk he hx hy hX hY
      simp only [eqKindsL] at h
      rw [bif_some] at h
      obtain ⟨hn,h⟩:=h
      simp only [Bool.and_eq_true] at hn
      obtain ⟨hn,ho⟩:=hn
      have ho:=Nat.eq_of_beq_eq_true ho
      split at h
      · rename_i z1 hz1
        split at h
        · rename_i i hi
          rw [bif_some] at h
          obtain ⟨hsz,h⟩:=h
          have hsz:=Nat.eq_of_beq_eq_true hsz
          split at h
          · rename_i z2 hz2
            simp at h; subst h
            obtain ⟨a1,a2,rfl,hk1,hk2,hl1⟩:=kindsB_append hk
            obtain ⟨b1,b2,r1,r2,rfl,he1,he2,rfl⟩:=eqCells_append he
            obtain ⟨x1,x2,rfl,hx1,hx2⟩:=hx.split
            obtain ⟨y1,y2,rfl,hy1,hy2⟩:=hy.split
            have hxl:x1.length = z1.length:=by rw [← hx1.length,hl1]
            have hyl:y1.length = z1.length:=by rw [← hy1.length,← eqCells_length he1,hl1]
            have hrun:=H1 f.type z1 hz1 d' hd a1 b1 r1 x1 y1 hk1 he1 hx1 hy1
            have hrest:=ihl (off + z1.length) z2 hz2 d' hd X Y a2 b2 r2 x2 y2 hk2 he2 hx2 hy2 (by rw [← List.drop_drop,hX,← hxl]; simp) (by rw [← List.drop_drop,hY,← hyl]; simp)
            have hpart:∀ (Z:Array Value) (q1 q2:List Value),q1.length = z1.length → Z.toList.drop off = q1 ++ q2 → (part f.type Z f.offset).run P w = .ok (mkv P f.type q1) w:=by
              intro Z q1 q2 hq hZ
              have hex:Z.extract off (off + i.size) = q1.toArray:=by
                apply Array.ext'
                rw [Array.toList_extract]
                simp only [List.extract_eq_take_drop,hZ,hsz,← hq,Nat.add_sub_cancel_left]
                simp
              simp only [eqKinds] at hz1
              split at hz1
              · rename_i hu
                simp at hz1; subst hz1
                match q1,hq with
                | [q],_ =>
                  have:Z[off]? = some q:=by rw [← Array.getElem?_toList,← List.head?_drop,hZ]; rfl
                  simp [part,isAgg,run_underlying hu,ho,this,mkv,hu]
              · rename_i k hu
                simp at hz1; subst hz1
                match q1,hq with
                | [q],_ =>
                  have:Z[off]? = some q:=by rw [← Array.getElem?_toList,← List.head?_drop,hZ]; rfl
                  simp [part,isAgg,run_underlying hu,ho,this,mkv,hu]
              · rename_i hu
                simp at hz1; subst hz1
                match q1,hq with
                | [q],_ =>
                  have:Z[off]? = some q:=by rw [← Array.getElem?_toList,← List.head?_drop,hZ]; rfl
                  simp [part,isAgg,run_underlying hu,ho,this,mkv,hu]
              · rename_i fs hu
                simp [part,isAgg,run_underlying hu,sizeOf,typeInfo,hi,ho,hex,mkv,hu]
              · simp at hz1
            have hn' : f.name ≠ "_" := by simpa using hn
            simp only [Op.eqFields,hn',ne_eq,not_false_eq_true,if_true,Sem.run_bind,hpart X x1 x2 hxl hX,hpart Y y1 y2 hyl hY,hrun,Result.andThen_ok]
            cases r1
            · simp
            · simpa using hrest
          · simp at h
        · simp at h
      · simp at h
theorem eqOk_of {t:TypeId} {z:List DV} {d:Nat} (hd:d ≤ 10000) (h:eqKinds P d t = some z) (hs:(match P.underlying t with | some (.struct _) => true | _ => false) = true) (hg:P.eqGuardType P.depth t = false):EqOk P z t:=by
  refine ⟨hg,fun a b r xs ys o w hk he hx hy => ?_⟩
  have:=(eq_pair (o:=o) (w:=w) d).1 t z h 10000 hd a b r xs ys hk he hx hy
  have hm:∀ l,mkv P t l = .agg l.toArray:=fun l => by
    unfold mkv
    split
    · rfl
    · rename_i hne
      split at hs
      · rename_i fs hfs; exact absurd hfs (hne fs)
      · simp at hs
  rwa [hm,hm] at this
end
end Go.PS
end

section
namespace Go.PS
open Go.RowKit
section
variable {P:Program} {C:Ctx} {W0:World}
def EKOk (P:Program) (W0:World) (f:Nat):EK → Prop
  | .pure s => SoundP P W0 f fun args => (s args).val
  | .eff s => Sound P W0 f fun args H => (s args H).val
  | .fr s => Sound P W0 f fun args H => (s args H).val
def look (l:List (Nat × EK)) (f:Nat):Option EK :=
  match l with
  | [] => none
  | (g,e) :: l => bif Nat.beq g f then some e else look l f
theorem look_ok {l:List (Nat × EK)} (h:∀ p ∈ l,EKOk P W0 p.1 p.2) {tys eqs F ld}:EnvOk P W0 ⟨tys,eqs,look l,F,ld⟩:=by
  intro f ek hf
  have key:EKOk P W0 f ek:=by
    replace hf:look l f = some ek:=hf
    induction l with
    | nil => simp [look] at hf
    | cons p l ih =>
      obtain ⟨g,e⟩:=p
      simp only [look] at hf
      cases hb:Nat.beq g f with
      | true =>
        rw [hb] at hf
        simp at hf; subst hf
        have:=Nat.eq_of_beq_eq_true hb
        subst this
        exact h (g,e) (List.mem_cons_self ..)
      | false =>
        rw [hb] at hf
        exact ih (fun q hq => h q (List.mem_cons_of_mem _ hq)) (by simpa using hf)
  cases ek <;> exact key
theorem all_nil:∀ p ∈ ([]:List (Nat × EK)),EKOk P W0 p.1 p.2:=by simp
theorem all_cons {f:Nat} {e:EK} {l:List (Nat × EK)} (h:EKOk P W0 f e) (hl:∀ p ∈ l,EKOk P W0 p.1 p.2):∀ p ∈ (f,e) :: l,EKOk P W0 p.1 p.2:=by
  intro p hp
  rcases List.mem_cons.1 hp with rfl | hp
  · exact h
  · exact hl p hp
structure FnOk (P:Program) (f:FuncId) (n:Nat) (rs:List ResultVar) (c:Code):Prop where
  ex : ∃ fn : Func, P.funcs[f]? = some fn ∧ fn.body = some c ∧ (fn.name == "runtime.NumGoroutine") = false ∧ fn.ntmps = n ∧ fn.results.toList = rs ∧ nodupN (tmpsOf rs) = true
theorem eff_of (hC:TyOk P C) (hE:EnvOk P W0 C) (hm:P.follows .mixedOrders = true) {f:FuncId} {n:Nat} {rs:List ResultVar} {c:Code} (hf:FnOk P f n rs c) {L:Lps} (hL:LpsOk C L (loopsOf c))
    {S:List PV → List PObj → Tr (Out × List PObj)} (h:∀ args H r,(S args H).val = some r → runE C L n rs c args H = some r):EKOk P W0 f (.eff (PS.frameT S)):=by
  obtain ⟨fn,h1,h2,h3,rfl,rfl,h6⟩:=hf.ex
  exact Sound.frameT (sound_of hC hE hm h1 h2 h3 h6 hL h)
theorem fr_of (hC:TyOk P C) (hE:EnvOk P W0 C) (hm:P.follows .mixedOrders = true) {f:FuncId} {n:Nat} {rs:List ResultVar} {c:Code} (hf:FnOk P f n rs c) {L:Lps} (hL:LpsOk C L (loopsOf c))
    {S:List PV → List PObj → Tr (Out × List PObj)} (h:∀ args H r,(S args H).val = some r → runE C L n rs c args H = some r):EKOk P W0 f (.fr S):=by
  obtain ⟨fn,h1,h2,h3,rfl,rfl,h6⟩:=hf.ex
  exact sound_of hC hE hm h1 h2 h3 h6 hL h
theorem pure_of (hC:TyOk P C) (hE:EnvOk P W0 C) (hm:P.follows .mixedOrders = true) {f:FuncId} {n:Nat} {rs:List ResultVar} {c:Code} (hf:FnOk P f n rs c) {L:Lps} (hL:LpsOk C L (loopsOf c))
    {S:List PV → Tr PV} (h:∀ args v,(S args).val = some v → runP C L n rs c args = some v):EKOk P W0 f (.pure S):=by
  obtain ⟨fn,h1,h2,h3,rfl,rfl,h6⟩:=hf.ex
  exact soundP_of hC hE hm h1 h2 h3 h6 hL h
def roundK {R:Type} (body:St → (Ex → St → Option R) → Option R) (n:Nat) (ts xs:List Nat) (st:St) (k:Ex → St → Option R) (g:St → Option R):Option R :=
  body st fun e st' => match e with
    | .normal => head n ts st' g
    | .pan v => k (.pan v) ⟨forget xs st'.slots,cutH n st'.heap⟩
    | e => k e (cutSt n (forget xs st'.slots) st'.heap)
theorem loopK_succ {R:Type} (body:St → (Ex → St → Option R) → Option R) (n:Nat) (ts xs:List Nat) (m:Nat) (st:St) (k:Ex → St → Option R):loopK body n ts xs (m + 1) st k = roundK body n ts xs st k fun st' => loopK body n ts xs m st' k:=rfl
def rnd {R:Type} (k:Ex → St → Option R) (g:St → Option R):(Ex × St) ⊕ St → Option R
  | .inl p => k p.1 p.2
  | .inr st => g st
def sl:List PV → List (Nat × PV) → List PV
  | l,[] => l
  | l,(i,v) :: r => sl (up l i v) r
def slots (n:Nat) (l:List (Nat × PV)):List PV:=sl (rep n .undef) l
def allBut (n:Nat) (l:List Nat):List Nat:=(List.range n).filter fun i => !memN i l
end
end Go.PS
end

section
namespace Go.PS
def isUndef:PV → Bool
  | .undef => true
  | _ => false
def shapeFrom (live:List Nat):Nat → List PV → Bool
  | _,[] => true
  | i,v :: l => (memN i live || isUndef v) && shapeFrom live (i + 1) l
def shape (n:Nat) (live:List Nat) (l:List PV):Bool:=Nat.beq l.length n && shapeFrom live 0 l
theorem memN_iff {t:Nat} {l:List Nat}:memN t l = true ↔ t ∈ l:=by
  induction l with
  | nil => simp [memN]
  | cons u l ih =>
    simp only [memN,Bool.or_eq_true,ih,List.mem_cons]
    constructor
    · rintro (h | h)
      · exact .inl (Nat.eq_of_beq_eq_true h).symm
      · exact .inr h
    · rintro (rfl | h)
      · exact .inl (by simp)
      · exact .inr h
theorem shapeFrom_get {live:List Nat}:∀ {l:List PV} {i:Nat},shapeFrom live i l = true → ∀ j,i + j ∉ live → gt .undef l j = .undef:=by
  intro l
  induction l with
  | nil => intro i _ j _; rfl
  | cons v l ih =>
    intro i h j hj
    simp only [shapeFrom,Bool.and_eq_true,Bool.or_eq_true] at h
    cases j with
    | zero =>
      rcases h.1 with h1 | h1
      · exact absurd (memN_iff.1 h1) hj
      · cases v <;> simp [isUndef] at h1
        rfl
    | succ j => exact ih h.2 j (by rw [show i + 1 + j = i + (j + 1) by omega]; exact hj)
theorem sl_length:∀ (u:List (Nat × PV)) (l:List PV),(sl l u).length = l.length:=by
  intro u
  induction u with
  | nil => intro l; rfl
  | cons p u ih => intro l; obtain ⟨i,v⟩:=p; simp [sl,ih]
theorem sl_get:∀ (live:List Nat) (f:Nat → PV) (l:List PV) (j:Nat),gt .undef (sl l (live.map fun i => (i,f i))) j = if j ∈ live ∧ j < l.length then f j else gt .undef l j:=by
  intro live f
  induction live with
  | nil => intro l j; simp [sl]
  | cons i live ih =>
    intro l j
    simp only [List.map_cons,sl]
    rw [ih,up_length,gt_up]
    by_cases h1:j ∈ live ∧ j < l.length
    · rw [if_pos h1,if_pos ⟨List.mem_cons_of_mem _ h1.1,h1.2⟩]
    · rw [if_neg h1]
      by_cases h2:j = i ∧ i < l.length
      · rw [if_pos h2]
        obtain ⟨rfl,h2⟩:=h2
        rw [if_pos ⟨List.mem_cons_self ..,h2⟩]
      · rw [if_neg h2,if_neg]
        rintro ⟨h3,h4⟩
        rcases List.mem_cons.1 h3 with rfl | h3
        · exact h2 ⟨rfl,h4⟩
        · exact h1 ⟨h3,h4⟩
theorem shape_eq {n:Nat} {live:List Nat} {l:List PV} (h:shape n live l = true):l = slots n (live.map fun i => (i,gt .undef l i)):=by
  unfold shape at h
  simp only [Bool.and_eq_true] at h
  obtain ⟨h1,h2⟩:=h
  have h1:=Nat.eq_of_beq_eq_true h1
  unfold slots
  apply List.ext_getElem?
  intro j
  have hlen:(sl (rep n PV.undef) (live.map fun i => (i,gt .undef l i))).length = n:=by rw [sl_length,rep_eq]; simp
  by_cases hj:j < n
  · have e1:l[j]? = some (gt .undef l j):=by rw [gt_eq,List.getElem?_eq_getElem (by omega)]; rfl
    have e2:(sl (rep n PV.undef) (live.map fun i => (i,gt .undef l i)))[j]? = some (gt .undef (sl (rep n PV.undef) (live.map fun i => (i,gt .undef l i))) j):=by rw [gt_eq,List.getElem?_eq_getElem (by omega)]; rfl
    rw [e1,e2,sl_get]
    congr 1
    split
    · rfl
    · rename_i hn
      have:j ∉ live:=fun hm => hn ⟨hm,by rw [rep_eq]; simpa using hj⟩
      rw [shapeFrom_get h2 j (by simpa using this),rep_eq,gt_eq]
      cases hh:(List.replicate n PV.undef)[j]? with
      | none => rfl
      | some x => have:=List.mem_of_getElem? hh; rw [List.mem_replicate] at this; rw [this.2]; rfl
  · rw [List.getElem?_eq_none (by omega),List.getElem?_eq_none (by omega)]
theorem lps_one {C:Ctx} {L:Lps} {c:Code} {id:Nat} {ks xs:List Nat} {T:St → Tr (Ex × St)} (hL:L = fun i => bif Nat.beq i id then some (ks,xs,T) else none) {l:List Code} (hl:l = [c])
    (h:∀ (R:Type) st (K:Ex → St → Option R) (r:R),((T st).run fun p => K p.1 p.2) = some r → loopK (pcodeK C L c) st.heap.length (ks ++ temps c) xs C.fuel st K = some r):LpsOk C L l:=by
  subst hL hl
  intro c' hc ks' xs' T' hT R st K r hr
  simp only [List.mem_singleton] at hc
  subst hc
  dsimp only at hT
  cases hb:Nat.beq (loopId c') id with
  | false => rw [hb] at hT; simp at hT
  | true =>
    rw [hb] at hT
    simp only [cond_true,Option.some.injEq,Prod.mk.injEq] at hT
    obtain ⟨rfl,rfl,rfl⟩:=hT
    exact h R st K r hr
end Go.PS
end

section
namespace Go.PS
open Go.RowKit
section
variable {P:Program} {C:Ctx} {W0:World} {o:Own} {sig:List Nat} {st:St} {a:Act} {w:World} {R:Type} {tm:Array Value}
abbrev SD:=Option DV → List PV → List PObj → Option (Bool × List PObj)
def ModeIs (o:Own) (w:World):Option DV → FrameMode → Prop
  | none,u => u = .returning
  | some v,u => ∃ x,Enc o w v x ∧ u = .panicking [{ v:=x,recovered:=false }]
def modeEnd (b:Bool):FrameMode → FrameMode
  | .panicking [e] => .panicking [{ e with recovered:=b }]
  | u => u
structure SoundD (P:Program) (W0:World) (f:FuncId) (S:SD):Prop where
  enters:∀ args w,(callFunc f args).run P w = .ok (.enter f args) w
  calls:∀ m args H b H',S m args H = some (b,H') → ∀ o sig w xs u,Gl W0 o w → RelH o sig H w → PEncL o w sig args xs → ModeIs o w m u →
    CallsD P f xs.toArray u w fun e u' w' => (∃ y,e = .returned y) ∧ u' = modeEnd b u ∧ ∃ o' sig',Gl W0 o' w' ∧ RelH o' sig' H' w' ∧ Step o w o' w' ∧ SigExt sig sig'
def modeV:Option DV → DV
  | none => .nili
  | some v => v
noncomputable def runR (C:Ctx) (L:Lps) (n t d:Nat) (c:Code) (m:Option DV) (args:List PV) (H:List PObj):Option (Bool × List PObj) :=
  match argsE args with
  | some vs => pcodeK C L c ((St.put ⟨vs ++ rep (n - args.length) .undef,H⟩ (some t) (.d (modeV m))).put (some d) (.d (modeV m))) fun e st => match e with
    | .normal | .ret => bif belowH H.length (tk st.heap H.length) then some (m.isSome,tk st.heap H.length) else some (m.isSome,st.heap)
    | _ => none
  | none => none
theorem Step.relR {ψ:Pl → Pl} (h0:ψ .ext = .ext) {o' : Own} {w' : World} (h:Step o w o' w'):Step o w (rel ψ o') w':=by
  refine ⟨h.os,h.tape,h.output,h.size,fun b hb hp => ?_,fun b off x hx => rel_stab (h.stab _ _ _ hx)⟩
  obtain ⟨e1,e2⟩:=h.prot b hb hp
  refine ⟨e1,?_⟩
  unfold rel
  rw [e2]
  cases hob:o b with
  | none => rfl
  | some q =>
    obtain ⟨lo,p⟩:=q
    rw [hob] at hp
    cases p <;> simp [Prot] at hp
    simp [h0]
theorem soundD_of (hC:TyOk P C) (hE:EnvOk P W0 C) (hm:P.follows .mixedOrders = true) {f:FuncId} {fn:Func} (hf:P.funcs[f]? = some fn) {id t d:Nat} {rc as:Oper} {c:Code}
    (hb : fn.body = some (.seq (.region id #[rc, as] false) c)) (hn : (fn.name == "runtime.NumGoroutine") = false) (hrs : fn.results = #[])
    (r1:rc.op = .call { callee:=.builtin .recover,args:=#[],argTypes:=#[] }) (r2:rc.dst = some t) (r3:rc.guard = none) (a1:as.op = .assign (.tmp t)) (a2:as.dst = some d) (a3:as.guard = none)
    (ht:t < fn.ntmps)
    {L:Lps} (hL:LpsOk C L (loopsOf c)) {S:SD} (h:∀ m args H r,S m args H = some r → runR C L fn.ntmps t d c m args H = some r):SoundD P W0 f S:=by
  refine ⟨enters_of hf hb hn,?_⟩
  intro m args H b H' hs o sig w xs u hg hh hx hu
  have h:=h m args H _ hs
  unfold runR at h
  split at h
  rotate_left
  · simp at h
  rename_i us hus
  have hrel:=enter_rel (fn:=fn) hg hh hx hus
  have hxl:xs.length = args.length:=hx.length.symm
  refine callsD_of_wpS hf hb fun c₀ cs hc₀ => ?_
  refine wpS_seq (wpS_region ?_)
  obtain ⟨rop,rd,rt,rp,raf,rg⟩:=rc
  obtain ⟨aop,ad,at_,ap,aaf,ag⟩:=as
  dsimp only at r1 r2 r3 a1 a2 a3
  subst r1 r2 r3 a1 a2 a3
  -- what is handed out
  obtain ⟨x,cs',u',hrec,hcs',hu',hv⟩:∃ x cs' u',(match recoverD (c₀ :: cs) with | some (v,cs') => (v,cs') | none => (.nilIface,c₀ :: cs)) = (x,cs') ∧ cs' = { c₀ with mode:=u' } :: cs ∧ u' = modeEnd m.isSome u ∧
      Enc (rel inw o) w (modeV m) x:=by
    cases m with
    | none =>
      have hu:u = .returning:=hu
      refine ⟨.nilIface,c₀ :: cs,.returning,?_,?_,?_,.nili⟩
      · have:recoverD (c₀ :: cs) = none:=by simp only [recoverD,hc₀,hu]
        rw [this]
      · rw [← hu,← hc₀]
      · rw [hu]; rfl
    | some v =>
      obtain ⟨x,hx,hu⟩:=hu
      refine ⟨x,{ c₀ with mode:=.panicking [{ v:=x,recovered:=true }] } :: cs,.panicking [{ v:=x,recovered:=true }],?_,rfl,?_,hx.mono fun _ _ _ h => rel_stab h⟩
      · have:recoverD (c₀ :: cs) = some (x,{ c₀ with mode:=.panicking [{ v:=x,recovered:=true }] } :: cs):=by
          simp only [recoverD,hc₀,hu]
        rw [this]
      · rw [hu]; rfl
  let a0:Act:={ tmps:=xs.toArray ++ Array.replicate (fn.ntmps - xs.toArray.size) undef,defers:=[] }
  have hsz:t < a0.tmps.size:=by show t < (xs.toArray ++ Array.replicate (fn.ntmps - xs.toArray.size) undef).size; simp; omega
  have key:(Exit.thenS (c.wpS P (bodyPostS P fn c₀ cs (fun e u'' w' => (∃ y,e = .returned y) ∧ u'' = modeEnd b u ∧ ∃ o' sig',Gl W0 o' w' ∧ RelH o' sig' H' w' ∧ Step o w o' w' ∧ SigExt sig sig')))
      (bodyPostS P fn c₀ cs (fun e u'' w' => (∃ y,e = .returned y) ∧ u'' = modeEnd b u ∧ ∃ o' sig',Gl W0 o' w' ∧ RelH o' sig' H' w' ∧ Step o w o' w' ∧ SigExt sig sig'))) .normal ((a0.put (some t) x).put (some d) x) cs' w:=by
    show c.wpS P _ _ _ _
    refine wpS_of_wp ?_
    have hr1:Rel W0 (rel inw o) sig _ ((a0.put (some t) x).put (some d) x).tmps w:=(hrel.put (a:=a0) (dst:=some t) (PEnc.d hv) fun _ _ k => cap_cmp_noOwn (v:=.d _) trivial (by simp) k).put (dst:=some d) (PEnc.d hv) fun _ _ k => cap_cmp_noOwn (v:=.d _) trivial (by simp) k
    refine pcodeK_sound (ds:=[]) hC hE hm c hL hr1 rfl ?_ h
    intro e st' o' sig' a' w' ex k1 k2 k3 k4 k5
    have fin:Rel W0 o' sig' st' a'.tmps w' → (bif belowH H.length (tk st'.heap H.length) then some (m.isSome,tk st'.heap H.length) else some (m.isSome,st'.heap)) = some (b,H') →
        ∃ u'',cs' = { c₀ with mode:=u'' } :: cs ∧ ∃ v,(results fn a'.tmps).run P w' = .ok v w' ∧ ((∃ y,Ending.returned v = .returned y) ∧ u'' = modeEnd b u ∧ ∃ o' sig',Gl W0 o' w' ∧ RelH o' sig' H' w' ∧ Step o w o' w' ∧ SigExt sig sig'):=by
      intro k2 k1
      obtain ⟨y,hy,_⟩:=resVs_sound (P:=P) hC k2 (fn:=fn) (by rw [hrs]; rfl) (vs:=[]) (by rw [hrs]; rfl)
      refine ⟨u',hcs',y,hy,⟨_,rfl⟩,?_,?_⟩
      · rw [hu']
        cases hbb:belowH H.length (tk st'.heap H.length) <;> (rw [hbb] at k1; simp at k1; rw [k1.1])
      · have hl:∀ sig2 H2,RelH o' sig2 H2 w' → SigExt sig sig2 → ∃ o2 sig',Gl W0 o2 w' ∧ RelH o2 sig' H2 w' ∧ Step o w o2 w' ∧ SigExt sig sig':=by
          intro sig2 H2 g1 g2
          obtain ⟨l1,l2,l3,l4,l5⟩:=leave (ψ:=outR []) rfl (fun _ => rfl) (fun _ _ => rfl) hg k2.gl k3 g1
          exact ⟨_,_,l1,l2,l3,g2⟩
        cases hbb:belowH H.length (tk st'.heap H.length) with
        | true =>
          rw [hbb] at k1; simp at k1
          rw [tk_eq] at hbb
          rw [← k1.2,tk_eq]
          exact hl _ _ (k2.hp.take _ hbb) (by rw [← hh.sigl]; exact k4.take)
        | false =>
          rw [hbb] at k1; simp at k1
          rw [← k1.2]
          exact hl _ _ k2.hp k4
    cases ex with
    | normal =>
      obtain ⟨rfl,k2⟩:=k2
      exact ⟨k5,fin k2 k1⟩
    | ret =>
      obtain ⟨rfl,k2⟩:=k2
      exact ⟨k5,fin k2 k1⟩
    | exit id => obtain ⟨rfl,k2⟩:=k2; simp at k1
    | panic ch => obtain ⟨v,x,rfl,k2⟩:=k2; simp at k1
    | goto l => exact k2.elim
    | outgrown => exact k2.elim
  have he2:(a0.put (some t) x).eval (.tmp t) = x:=by
    show (a0.tmps.setIfInBounds t x).getD t undef = x
    simp [Array.getD,hsz]
  have hx1:∀ ρ,(execOp ρ { dst:=some t,op:=.call { callee:=.builtin .recover,args:=#[],argTypes:=#[] },type:=rt,pos:=rp,after:=raf,guard:=none }).run P w = .ok .recover w:=fun ρ => rfl
  have hx2:∀ ρ,(execOp ρ { dst:=some d,op:=.assign (.tmp t),type:=at_,pos:=ap,after:=aaf,guard:=none }).run P w = .ok (.value (ρ (.tmp t))) w:=fun ρ => rfl
  show wpOpsS P _ _ [0,1] a0 (c₀ :: cs) w
  have step1:∀ cs1,wpOpsS P #[{ dst:=some t,op:=.call { callee:=.builtin .recover,args:=#[],argTypes:=#[] },type:=rt,pos:=rp,after:=raf,guard:=none },{ dst:=some d,op:=.assign (.tmp t),type:=at_,pos:=ap,after:=aaf,guard:=none }] (Exit.thenS (c.wpS P (bodyPostS P fn c₀ cs (fun e u'' w' => (∃ y,e = .returned y) ∧ u'' = modeEnd b u ∧ ∃ o' sig',Gl W0 o' w' ∧ RelH o' sig' H' w' ∧ Step o w o' w' ∧ SigExt sig sig')))
      (bodyPostS P fn c₀ cs (fun e u'' w' => (∃ y,e = .returned y) ∧ u'' = modeEnd b u ∧ ∃ o' sig',Gl W0 o' w' ∧ RelH o' sig' H' w' ∧ Step o w o' w' ∧ SigExt sig sig'))) [1] (a0.put (some t) x) cs1 w = Exit.thenS (c.wpS P (bodyPostS P fn c₀ cs (fun e u'' w' => (∃ y,e = .returned y) ∧ u'' = modeEnd b u ∧ ∃ o' sig',Gl W0 o' w' ∧ RelH o' sig' H' w' ∧ Step o w o' w' ∧ SigExt sig sig')))
      (bodyPostS P fn c₀ cs (fun e u'' w' => (∃ y,e = .returned y) ∧ u'' = modeEnd b u ∧ ∃ o' sig',Gl W0 o' w' ∧ RelH o' sig' H' w' ∧ Step o w o' w' ∧ SigExt sig sig')) .normal ((a0.put (some t) x).put (some d) x) cs1 w:=by
    intro cs1
    simp only [wpOpsS,List.getElem?_toArray,List.getElem?_cons_succ,List.getElem?_cons_zero,Region.wanted,if_true,hx2,he2,Oper.upon]
  simp only [wpOpsS,List.getElem?_toArray,List.getElem?_cons_zero,Region.wanted,if_true,hx1]
  split
  · rename_i v cs1 hr1
    rw [hr1] at hrec
    simp only [Prod.mk.injEq] at hrec
    obtain ⟨rfl,rfl⟩:=hrec
    exact (step1 _).mpr key
  · rename_i hr1
    rw [hr1] at hrec
    simp only [Prod.mk.injEq] at hrec
    obtain ⟨rfl,rfl⟩:=hrec
    exact (step1 _).mpr key
end
end Go.PS
end
