/- A part of the proof of the claim (the pure semantics PS and the contracts of the functions over it). -/
import Derived.Test.YtihpkebhgkfiaaaDoorPsB
import Derived.LoopN
import Derived.Laws.StructEq
set_option linter.all false
section
namespace Go.PS
open Go.RowKit
section
variable {P : Program} {C : Ctx} {W0 : World} {o : Own} {sig : List Nat} {st : St} {a : Act} {w : World} {R : Type} {tm : Array Value}
  {r : R} {Q : Exit → Act → World → Prop} {K : Ex → St → Option R}

/-- which way a run ends -/
def Exits (W0 : World) (e : Ex) (o' : Own) (sig' : List Nat) (st' : St) (a' : Act) (w' : World) : Exit → Prop
  | .normal => e = .normal ∧ Rel W0 o' sig' st' a'.tmps w'
  | .exit id => e = .exit id ∧ Rel W0 o' sig' st' a'.tmps w'
  | .ret => e = .ret ∧ Rel W0 o' sig' st' a'.tmps w'
  | .panic chain => ∃ v x, e = .pan v ∧ Enc o' w' v x ∧ RelH o' sig' st'.heap w' ∧ Gl W0 o' w' ∧ chain = [{ v := x, recovered := false }]
  | _ => False

/-- what follows, of a state -/
def AfterI (I : Act → Prop) (W0 : World) (o : Own) (sig : List Nat) (w : World) (K : Ex → St → Option R) (r : R) (Q : Exit → Act → World → Prop) : Prop :=
  ∀ e st' o' sig' a' w' x, K e st' = some r → Exits W0 e o' sig' st' a' w' x → Step o w o' w' → SigExt sig sig' → I a' → Q x a' w'

theorem AfterI.trans {I : Act → Prop} {o1 : Own} {sig1 : List Nat} {w1 : World} (h : AfterI I W0 o sig w K r Q) (hs : Step o w o1 w1) (he : SigExt sig sig1) : AfterI I W0 o1 sig1 w1 K r Q :=
  fun e st' o' sig' a' w' x h1 h2 h3 h4 h5 => h e st' o' sig' a' w' x h1 h2 (hs.trans h3) (he.trans h4) h5

def After (ds : List Deferred) (W0 : World) (o : Own) (sig : List Nat) (w : World) (K : Ex → St → Option R) (r : R) (Q : Exit → Act → World → Prop) : Prop :=
  ∀ e st' o' sig' a' w' x, K e st' = some r → Exits W0 e o' sig' st' a' w' x → Step o w o' w' → SigExt sig sig' → a'.defers = ds → Q x a' w'

theorem After.trans {ds : List Deferred} {o1 : Own} {sig1 : List Nat} {w1 : World} (h : After ds W0 o sig w K r Q) (hs : Step o w o1 w1) (he : SigExt sig sig1) : After ds W0 o1 sig1 w1 K r Q :=
  fun e st' o' sig' a' w' x h1 h2 h3 h4 h5 => h e st' o' sig' a' w' x h1 h2 (hs.trans h3) (he.trans h4) h5

theorem forget_length (ts : List Nat) : ∀ l : List PV, (forget ts l).length = l.length := by
  induction ts with
  | nil => intro l; rfl
  | cons t ts ih => intro l; simp [forget, ih]

theorem Rel.forget (ts : List Nat) : ∀ {st : St}, Rel W0 o sig st tm w → Rel W0 o sig ⟨PS.forget ts st.slots, st.heap⟩ tm w := by
  induction ts with
  | nil => intro st h; exact h
  | cons t ts ih =>
    intro st h
    exact ih (h.setPS (d := t) (v := .undef) .undef fun k => cap_cmp_noOwn (v := .undef) trivial (by simp) k)

mutual
theorem below_mono {n : Nat} {v : PV} {x : Value} (h : PEnc o w sig v x) (hb : below n v = true) : PEnc o w (sig.take n) v x := by
  match h with
  | .d h => exact .d h
  | .own h => exact .own h
  | .ptr (id := id) h =>
    refine .ptr ?_
    have : id < n := Nat.le_of_ble_eq_true hb
    rw [List.getElem?_take, if_pos this]; exact h
  | .ro ys hx hc hs => exact .ro ys hx hc hs
  | .func h => exact .func (belows_mono h hb)
  | .tup h => simp [below] at hb
  | .undef => exact .undef
  | .skp => exact .skp
theorem belows_mono {n : Nat} {vs : List PV} {xs : List Value} (h : PEncL o w sig vs xs) (hb : below.belows n vs = true) : PEncL o w (sig.take n) vs xs := by
  match h with
  | .nil => exact .nil
  | .cons hh t =>
    simp only [below.belows, Bool.and_eq_true] at hb
    exact .cons (below_mono hh hb.1) (belows_mono t hb.2)
end

theorem belowsAll_get {n : Nat} {vs : List PV} (h : belowsAll n vs = true) : ∀ j, j < vs.length → below n (gt .undef vs j) = true := by
  induction vs with
  | nil => intro j hj; simp at hj
  | cons v vs ih =>
    intro j hj
    simp only [belowsAll, Bool.and_eq_true] at h
    cases j with
    | zero => exact h.1
    | succ j => exact ih h.2 j (by simpa using hj)

theorem belowH_get {n : Nat} {H : List PObj} (h : belowH n H = true) : ∀ (id : Nat) vs, H[id]? = some (.cells vs) → belowsAll n vs = true := by
  induction H with
  | nil => intro id vs hid; simp at hid
  | cons ob H ih =>
    intro id vs hid
    cases ob with
    | cells us =>
      simp only [belowH, Bool.and_eq_true] at h
      cases id with
      | zero => simp at hid; subst hid; exact h.1
      | succ id => exact ih h.2 id vs (by simpa using hid)
    | iter s pos =>
      cases id with
      | zero => simp at hid
      | succ id => exact ih h id vs (by simpa using hid)

theorem RelH.take {heap : List PObj} (h : RelH o sig heap w) (n : Nat) (hb : belowH n (heap.take n) = true) : RelH o (sig.take n) (heap.take n) w where
  sigl := by simp [h.sigl]
  obj id ob hid := by
    have hlt : id < n := by
      have := (List.getElem?_eq_some_iff.1 hid).1
      simp at this; omega
    have hid' := hid
    rw [List.getElem?_take, if_pos hlt] at hid'
    obtain ⟨b, h1, h2, h3⟩ := h.obj id ob hid'
    refine ⟨b, by rw [List.getElem?_take, if_pos hlt]; exact h1, h2, ?_⟩
    cases ob with
    | cells vs =>
      obtain ⟨cs, T, h4, h5, h6⟩ := h3
      exact ⟨cs, T, h4, h5, fun off hoff => ⟨below_mono (h6 off hoff).1 (belowsAll_get (belowH_get hb id vs hid) off hoff), (h6 off hoff).2.1, (h6 off hoff).2.2⟩⟩
    | iter s pos => exact h3

theorem Rel.take (h : Rel W0 o sig st tm w) (n : Nat) (hs : belowsAll n st.slots = true) (hb : belowH n (st.heap.take n) = true) : Rel W0 o (sig.take n) ⟨st.slots, st.heap.take n⟩ tm w where
  gl := h.gl
  len := h.len
  slot j := by
    by_cases hj : j < st.slots.length
    · exact below_mono (h.slot j) (belowsAll_get hs j hj)
    · have : gt PV.undef st.slots j = .undef := by rw [gt_eq, List.getElem?_eq_none (Nat.le_of_not_lt hj)]; rfl
      show PEnc o w _ (gt PV.undef st.slots j) _
      rw [this]; exact .undef
  cap := h.cap
  hp := h.hp.take n hb

theorem SigExt.take {s s' : List Nat} (h : SigExt s s') : SigExt s (s'.take s.length) := by
  intro id b hid
  rw [List.getElem?_take, if_pos (List.getElem?_eq_some_iff.1 hid).1]
  exact h id b hid

/-- the loops of a program's text -/
def loopsOf : Code → List Code
  | .seq a b | .cond _ a b => loopsOf a ++ loopsOf b
  | .block _ c | .scope c => loopsOf c
  | .loop c => c :: loopsOf c
  | _ => []

def LpsOk (C : Ctx) (L : Lps) (l : List Code) : Prop :=
  ∀ c ∈ l, ∀ ks xs T, L (loopId c) = some (ks, xs, T) → ∀ (R : Type) st (K : Ex → St → Option R) (r : R), ((T st).run fun p => K p.1 p.2) = some r → loopK (pcodeK C L c) st.heap.length (ks ++ temps c) xs C.fuel st K = some r

theorem lpsOk_no (C : Ctx) (l : List Code) : LpsOk C noL l := fun c _ ks xs T h => by simp [noL] at h

theorem LpsOk.sub {C : Ctx} {L : Lps} {l l' : List Code} (h : LpsOk C L l) (hs : ∀ c ∈ l', c ∈ l) : LpsOk C L l' := fun c hc => h c (hs c hc)

/-- the operations of a text -/
def opsOf : Code → List Oper
  | .region _ ops _ => ops.toList
  | .seq a b | .cond _ a b => opsOf a ++ opsOf b
  | .block _ c | .loop c | .scope c => opsOf c
  | _ => []
/-- what a text's writes leave as it was -/
def KeepsI (I : Act → Prop) (c : Code) : Prop := ∀ op ∈ opsOf c, ∀ b x, I b → I (b.put op.dst x)
theorem KeepsI.sub {I : Act → Prop} {c c' : Code} (h : KeepsI I c) (hs : ∀ op ∈ opsOf c', op ∈ opsOf c) : KeepsI I c' := fun op ho => h op (hs op ho)

/-- a program does what its word says -/
theorem pcodeK_inv (hC : TyOk P C) (hE : EnvOk P W0 C) (hm : P.follows .mixedOrders = true) {I : Act → Prop} {L : Lps} : ∀ (c : Code) {st : St} {a : Act} {o : Own} {sig : List Nat} {w : World} {K : Ex → St → Option R} {Q : Exit → Act → World → Prop},
    LpsOk C L (loopsOf c) → KeepsI I c → Rel W0 o sig st a.tmps w → I a → AfterI I W0 o sig w K r Q → pcodeK C L c st K = some r → c.wp P Q a w := by
  intro c
  induction c with
  | skip =>
    intro st a o sig w K Q hL hI hr hd hA h
    exact wp_skip (hA .normal _ _ _ _ _ .normal h ⟨rfl, hr⟩ (.refl _ _) (.refl _) hd)
  | label l =>
    intro st a o sig w K Q hL hI hr hd hA h
    exact wp_label (hA .normal _ _ _ _ _ .normal h ⟨rfl, hr⟩ (.refl _ _) (.refl _) hd)
  | exit id =>
    intro st a o sig w K Q hL hI hr hd hA h
    exact wp_exit (hA (.exit id) _ _ _ _ _ (.exit id) h ⟨rfl, hr⟩ (.refl _ _) (.refl _) hd)
  | ret =>
    intro st a o sig w K Q hL hI hr hd hA h
    exact wp_ret (hA .ret _ _ _ _ _ .ret h ⟨rfl, hr⟩ (.refl _ _) (.refl _) hd)
  | region id ops draw =>
    intro st a o sig w K Q hL hI hr hd hA h
    simp only [pcodeK] at h
    cases draw with
    | true =>
      simp only [cond_true] at h
      exact runD_sound hC hE hm hr (fun a' st' o' sig' w' h1 h2 h3 h4 h5 => hA .normal _ _ _ _ _ .normal h1 ⟨rfl, h2⟩ h3 h4 (h5 I hI hd))
        (fun a' v x hp' o' sig' w' h1 h2 h3 h4 h5 h6 h7 => hA (.pan v) _ _ _ _ _ (.panic _) h1 ⟨v, x, rfl, h2, h3, h4, rfl⟩ h5 h6 (h7 I hI hd)) h
    | false =>
    simp only [cond_false] at h
    refine wp_region_list ?_
    have := popsK_sound (Q := Q) hC hE (ops := ops.toList) ops.toList hr .nil (fun a' st' o' sig' w' h1 h2 h3 h4 h5 => hA .normal _ _ _ _ _ .normal h1 ⟨rfl, h2⟩ h3 h4 (h5 I hI hd))
      (fun a' v x hp' o' sig' w' h1 h2 h3 h4 h5 h6 h7 => hA (.pan v) _ _ _ _ _ (.panic _) h1 ⟨v, x, rfl, h2, h3, h4, rfl⟩ h5 h6 (h7 I hI hd)) h
    simpa using this
  | seq x y ihx ihy =>
    intro st a o sig w K Q hL hI hr hd hA h
    simp only [pcodeK] at h
    refine wp_seq (ihx (hL.sub fun c hc => by simp [loopsOf, hc]) (hI.sub fun c hc => by simp [opsOf, hc]) hr hd ?_ h)
    intro e st' o' sig' a' w' ex h1 h2 h3 h4 h5
    cases ex with
    | normal =>
      obtain ⟨rfl, h2⟩ := h2
      exact ihy (hL.sub fun c hc => by simp [loopsOf, hc]) (hI.sub fun c hc => by simp [opsOf, hc]) h2 h5 (hA.trans h3 h4) h1
    | exit id => obtain ⟨rfl, h2⟩ := h2; exact hA _ _ _ _ _ _ (.exit id) h1 ⟨rfl, h2⟩ h3 h4 h5
    | ret => obtain ⟨rfl, h2⟩ := h2; exact hA _ _ _ _ _ _ .ret h1 ⟨rfl, h2⟩ h3 h4 h5
    | panic ch =>
      obtain ⟨v, x, rfl, h2⟩ := h2
      exact hA _ _ _ _ _ _ (.panic ch) h1 ⟨v, x, rfl, h2⟩ h3 h4 h5
    | goto l => exact h2.elim
    | outgrown => exact h2.elim
  | cond c x y ihx ihy =>
    intro st a o sig w K Q hL hI hr hd hA h
    simp only [pcodeK] at h
    split at h
    · rename_i t ht
      have hc := (hr.ev c)
      rw [ht] at hc
      have hc := hc.bool_inv
      have hset : ∀ b, t = b → Rel W0 o sig (settle st c b) a.tmps w := by
        rintro b rfl
        unfold settle
        split
        · exact hr.lit ht
        · exact hr
      rw [cnd_some] at h
      rcases h with ⟨rfl, h⟩ | ⟨rfl, h⟩
      · exact wp_cond_true hc (ihx (hL.sub fun c hc => by simp [loopsOf, hc]) (hI.sub fun c hc => by simp [opsOf, hc]) (hset _ rfl) hd hA h)
      · exact wp_cond_false hc (ihy (hL.sub fun c hc => by simp [loopsOf, hc]) (hI.sub fun c hc => by simp [opsOf, hc]) (hset _ rfl) hd hA h)
    · simp at h
  | block id c ih =>
    intro st a o sig w K Q hL hI hr hd hA h
    simp only [pcodeK] at h
    refine wp_block (ih (hL.sub fun c hc => by simpa [loopsOf] using hc) (hI.sub fun c hc => by simpa [opsOf] using hc) hr hd ?_ h)
    intro e st' o' sig' a' w' ex h1 h2 h3 h4 h5
    cases ex with
    | normal => obtain ⟨rfl, h2⟩ := h2; exact hA _ _ _ _ _ _ .normal h1 ⟨rfl, h2⟩ h3 h4 h5
    | exit id' =>
      obtain ⟨rfl, h2⟩ := h2
      unfold Exit.inBlock
      dsimp only at h1
      dsimp only
      by_cases e : id' = id
      · subst e
        rw [if_pos rfl]
        simp only [Nat.beq_refl, cond_true] at h1
        exact hA _ _ _ _ _ _ .normal h1 ⟨rfl, h2⟩ h3 h4 h5
      · rw [if_neg e]
        have : Nat.beq id' id = false := by
          cases hb : Nat.beq id' id
          · rfl
          · exact absurd (Nat.eq_of_beq_eq_true hb) e
        rw [this] at h1
        exact hA _ _ _ _ _ _ (.exit id') h1 ⟨rfl, h2⟩ h3 h4 h5
    | ret => obtain ⟨rfl, h2⟩ := h2; exact hA _ _ _ _ _ _ .ret h1 ⟨rfl, h2⟩ h3 h4 h5
    | panic ch =>
      obtain ⟨v, x, rfl, h2⟩ := h2
      exact hA _ _ _ _ _ _ (.panic ch) h1 ⟨v, x, rfl, h2⟩ h3 h4 h5
    | goto l => exact h2.elim
    | outgrown => exact h2.elim
  | loop c ih =>
    intro st a o sig w K Q hL hI hr hd hA h
    simp only [pcodeK] at h
    have hd1 : ∀ {st1 : St} {a1 : Act} {o1 : Own} {sig1 : List Nat} {w1 : World} {F : St → Option R}, Rel W0 o1 sig1 st1 a1.tmps w1 → SigExt sig sig1 → ∀ ts, head st.heap.length ts st1 F = some r →
        ∃ st2 sig2, F st2 = some r ∧ Rel W0 o1 sig2 st2 a1.tmps w1 ∧ SigExt sig sig2 ∧ ((tk st1.heap st.heap.length).length = st.heap.length → st2.heap.length = st.heap.length) := by
      intro st1 a1 o1 sig1 w1 F hr1 he1 ts h1
      unfold head at h1
      rw [bif_some] at h1
      obtain ⟨hb, h1⟩ := h1
      simp only [Bool.and_eq_true, tk_eq] at hb
      have hr2 := (hr1.forget ts).take st.heap.length hb.1 hb.2
      rw [tk_eq] at h1
      rw [← hr.hp.sigl] at hr2 h1
      exact ⟨_, _, h1, hr2, he1.take, fun hl => by rw [tk_eq] at hl; rw [hr.hp.sigl]; exact hl⟩
    have hd2 : ∀ {st1 : St} {a1 : Act} {o1 : Own} {sig1 : List Nat} {w1 : World}, Rel W0 o1 sig1 st1 a1.tmps w1 → SigExt sig sig1 → ∀ xs,
        ∃ sig2, Rel W0 o1 sig2 (cutSt st.heap.length (forget xs st1.slots) st1.heap) a1.tmps w1 ∧ SigExt sig sig2 := by
      intro st1 a1 o1 sig1 w1 hr1 he1 xs
      unfold cutSt
      cases hb : (belowsAll st.heap.length (forget xs st1.slots) && belowH st.heap.length (tk st1.heap st.heap.length)) with
      | false => exact ⟨_, hr1.forget xs, he1⟩
      | true =>
        simp only [Bool.and_eq_true, tk_eq] at hb
        have hr2 := (hr1.forget xs).take st.heap.length hb.1 hb.2
        rw [← hr.hp.sigl] at hr2
        rw [tk_eq, ← hr.hp.sigl]
        exact ⟨_, hr2, he1.take⟩
    have key : ∀ (ts xs : List Nat) (m : Nat) {st1 : St} {a1 : Act} {o1 : Own} {sig1 : List Nat} {w1 : World}, Rel W0 o1 sig1 st1 a1.tmps w1 → I a1 → Step o w o1 w1 → SigExt sig sig1 →
        loopK (pcodeK C L c) st.heap.length ts xs m st1 K = some r → Code.rounds P c Q m a1 w1 := by
      intro ts xs m
      induction m with
      | zero => intro st1 a1 o1 sig1 w1 _ _ _ _ h1; simp [loopK] at h1
      | succ m ihm =>
        intro st1 a1 o1 sig1 w1 hr1 hdf hs1 he1 h1
        simp only [loopK] at h1
        rw [rounds_succ]
        refine ih (hL.sub fun c hc => by simp [loopsOf, hc]) (hI.sub fun c hc => by simp [opsOf, hc]) hr1 hdf ?_ h1
        intro e st' o' sig' a' w' ex k1 k2 k3 k4 k5
        cases ex with
        | normal =>
          obtain ⟨rfl, k2⟩ := k2
          obtain ⟨st2, sig2, e1, e2, e3, _⟩ := hd1 k2 (he1.trans k4) _ k1
          exact ihm e2 k5 (hs1.trans k3) e3 e1
        | exit id =>
          obtain ⟨rfl, k2⟩ := k2
          obtain ⟨sig2, g1, g2⟩ := hd2 k2 (he1.trans k4) xs
          exact hA _ _ _ _ _ _ (.exit id) k1 ⟨rfl, g1⟩ (hs1.trans k3) g2 k5
        | ret =>
          obtain ⟨rfl, k2⟩ := k2
          obtain ⟨sig2, g1, g2⟩ := hd2 k2 (he1.trans k4) xs
          exact hA _ _ _ _ _ _ .ret k1 ⟨rfl, g1⟩ (hs1.trans k3) g2 k5
        | panic ch =>
          obtain ⟨v, x, rfl, k2⟩ := k2
          exact hA _ _ _ _ _ _ (.panic ch) k1 ⟨v, x, rfl, k2⟩ (hs1.trans k3) (he1.trans k4) k5
        | goto l => exact k2.elim
        | outgrown => exact k2.elim
    split at h
    · rename_i ks xs T hT
      obtain ⟨st2, sig2, e1, e2, e3, e4⟩ := hd1 hr (.refl _) _ h
      have e4 := e4 (by rw [tk_eq]; simp)
      have e1 := hL c (by simp [loopsOf]) ks xs T hT R st2 K r e1
      rw [e4] at e1
      exact wp_loop_rounds _ (key _ _ _ e2 hd (.refl _ _) e3 e1)
    · obtain ⟨st2, sig2, e1, e2, e3, e4⟩ := hd1 hr (.refl _) _ h
      exact wp_loop_rounds _ (key _ _ _ e2 hd (.refl _ _) e3 e1)
  | scope c ih => intro st a o sig w K Q hL hI hr hd hA h; simp [pcodeK] at h
  | goto l => intro st a o sig w K Q hL hI hr hd hA h; simp [pcodeK] at h
  | rangeFunc => intro st a o sig w K Q hL hI hr hd hA h; simp [pcodeK] at h
  | refuse => intro st a o sig w K Q hL hI hr hd hA h; simp [pcodeK] at h

theorem pcodeK_sound (hC : TyOk P C) (hE : EnvOk P W0 C) (hm : P.follows .mixedOrders = true) {ds : List Deferred} {L : Lps} (c : Code) {st : St} {a : Act} {o : Own} {sig : List Nat} {w : World} {K : Ex → St → Option R} {Q : Exit → Act → World → Prop}
    (hL : LpsOk C L (loopsOf c)) (hr : Rel W0 o sig st a.tmps w) (hd : a.defers = ds) (hA : After ds W0 o sig w K r Q) (h : pcodeK C L c st K = some r) : c.wp P Q a w :=
  pcodeK_inv (I := fun a => a.defers = ds) hC hE hm c hL (fun op _ b x hb => by show (b.put op.dst x).defers = ds; rw [put_defers]; exact hb) hr hd hA h

end
end Go.PS
end

section
namespace Go.PS
open Go.RowKit

/-- what a result variable holds -/
def resV (C : Ctx) (st : St) : ResultVar → Option PV
  | .tmp t => match gt .undef st.slots t with
    | .tup _ => none
    | .undef => none
    | v => some v
  | .cell a T => match gt .undef st.slots a with
    | .ptr id off => heapCells st.heap id fun cs => loadCells (C.ty T) (dr cs off) some
    | _ => none

def resVs (C : Ctx) (st : St) : List ResultVar → Option (List PV)
  | [] => some []
  | x :: l => match resV C st x with
    | some v => match resVs C st l with
      | some vs => some (v :: vs)
      | none => none
    | none => none

def below0s : List PV → Bool
  | [] => true
  | v :: l => below 0 v && below0s l

def resK (C : Ctx) (rs : List ResultVar) (st : St) : Option PV :=
  match resVs C st rs with
  | some vs => bif below0s vs then (match vs with | [v] => some v | vs => some (.tup vs)) else none
  | none => none

def tmpsOf : List ResultVar → List Nat
  | [] => []
  | .tmp t :: l => t :: tmpsOf l
  | .cell .. :: l => tmpsOf l

def nodupN : List Nat → Bool
  | [] => true
  | t :: l => !memN t l && nodupN l

/-- arguments: copies, and no places of the caller -/
def argsK : List PV → Option (List PV)
  | [] => some []
  | v :: l => bif below 0 v then (match argsK l with | some vs => some (v.plain :: vs) | none => none) else none

/-- a call of a function that leaves all as it was -/
noncomputable def runP (C : Ctx) (L : Lps) (n : Nat) (rs : List ResultVar) (c : Code) (args : List PV) : Option PV :=
  match argsK args with
  | some vs => pcodeK C L c ⟨vs ++ rep (n - args.length) .undef, []⟩ fun e st => match e with
    | .normal | .ret => resK C rs st
    | _ => none
  | none => none

section
variable {P : Program} {C : Ctx} {W0 : World} {o : Own} {sig : List Nat} {st : St} {a : Act} {w : World} {R : Type} {tm : Array Value}

theorem argsK_enc : ∀ {vs us : List PV} {xs : List Value}, PEncL o w sig vs xs → argsK vs = some us → PEncL o w [] us xs ∧ us.length = vs.length ∧ ∀ j, (∀ k, (cmpV (gt .undef us j) k).noOwn) := by
  intro vs
  induction vs with
  | nil =>
    intro us xs h g
    simp [argsK] at g; subst g
    cases h
    exact ⟨.nil, rfl, fun j k => by simp only [gt, cmpV]; split <;> trivial⟩
  | cons v vs ih =>
    intro us xs h g
    cases h with | cons hh t =>
    simp only [argsK] at g
    rw [bif_some] at g
    obtain ⟨hb, g⟩ := g
    split at g
    · rename_i us' hus
      simp at g; subst g
      obtain ⟨h1, h2, h3⟩ := ih t hus
      have := (below_mono hh hb).plain
      rw [List.take_zero] at this
      refine ⟨.cons this h1, by simp [h2], fun j k => ?_⟩
      cases j with
      | zero => exact plain_cmp (PV.plain_noOwn v) (plain_tup fun us e => by rw [e] at hb; simp [below] at hb) k
      | succ j => exact h3 j k
    · simp at g

theorem nodupN_spec {t : Nat} {l : List Nat} (h : nodupN (t :: l) = true) : t ∉ l ∧ nodupN l = true := by
  simp only [nodupN, Bool.and_eq_true, Bool.not_eq_true'] at h
  refine ⟨fun hm => ?_, h.2⟩
  have : ∀ l : List Nat, t ∈ l → memN t l = true := by
    intro l
    induction l with
    | nil => intro h; simp at h
    | cons u l ih =>
      intro hm
      simp only [memN, Bool.or_eq_true]
      rcases List.mem_cons.1 hm with e | e
      · subst e; exact .inl (by simp)
      · exact .inr (ih e)
  rw [this l hm] at h; simp at h

/-- which result a slot is -/
def resAt (rs : List ResultVar) (n : Nat) (j : Nat) : Option Nat :=
  match rs with
  | [] => none
  | .tmp t :: l => if t = j then some n else resAt l (n + 1) j
  | .cell .. :: l => resAt l (n + 1) j

def outR (rs : List ResultVar) (p : Pl) : Pl :=
  match p with
  | .slot j 0 => match resAt rs 0 j with | some k => .res k | none => .dead
  | p => p

theorem resAt_get : ∀ {rs : List ResultVar} {n i j : Nat}, nodupN (tmpsOf rs) = true → rs[i]? = some (.tmp j) → resAt rs n j = some (n + i) := by
  intro rs
  induction rs with
  | nil => intro n i j _ h; simp at h
  | cons x rs ih =>
    intro n i j hn h
    cases x with
    | tmp t =>
      obtain ⟨h1, h2⟩ := nodupN_spec hn
      cases i with
      | zero => simp at h; subst h; simp [resAt]
      | succ i =>
        have hne : t ≠ j := by
          rintro rfl
          refine h1 ?_
          have : ∀ (l : List ResultVar) (i : Nat), l[i]? = some (.tmp t) → t ∈ tmpsOf l := by
            intro l
            induction l with
            | nil => intro i h; simp at h
            | cons y l ih =>
              intro i h
              cases i with
              | zero => simp at h; subst h; simp [tmpsOf]
              | succ i => cases y <;> simp [tmpsOf] <;> first | exact .inr (ih i (by simpa using h)) | exact ih i (by simpa using h)
          exact this rs i (by simpa using h)
        simp only [resAt, if_neg hne]
        rw [ih h2 (by simpa using h)]
        congr 1; omega
    | cell b T =>
      cases i with
      | zero => simp at h
      | succ i =>
        simp only [resAt]
        rw [ih hn (by simpa using h)]
        congr 1; omega

theorem resVs_get : ∀ {rs : List ResultVar} {vs : List PV}, resVs C st rs = some vs → vs.length = rs.length ∧ ∀ (i : Nat) v, vs[i]? = some v → ∃ x, rs[i]? = some x ∧ resV C st x = some v := by
  intro rs
  induction rs with
  | nil => intro vs h; simp [resVs] at h; subst h; simp
  | cons x rs ih =>
    intro vs h
    simp only [resVs] at h
    split at h
    · rename_i v hv
      split at h
      · rename_i us hus
        simp at h; subst h
        obtain ⟨h1, h2⟩ := ih hus
        refine ⟨by simp [h1], fun i u hu => ?_⟩
        cases i with
        | zero => simp at hu; subst hu; exact ⟨x, by simp, hv⟩
        | succ i => simpa using h2 i u (by simpa using hu)
      · simp at h
    · simp at h

/-- one result -/
theorem resV_sound (hC : TyOk P C) (hr : Rel W0 o sig st tm w) {x : ResultVar} {v : PV} (h : resV C st x = some v) :
    ∃ y, ((match x with
      | .tmp t => pure (tm.getD t undef)
      | .cell a t => do loadVar t (← asAddr (tm.getD a undef)) : Sem Value)).run P w = .ok y w ∧ PEnc o w sig v y ∧ (∀ us, v ≠ .tup us) ∧
      (v.noOwn ∨ ∃ t, x = .tmp t ∧ Cap o w (.slot t 0) v y) := by
  cases x with
  | tmp t =>
    simp only [resV] at h
    have hs := hr.slot t
    have hc := hr.cap t 0
    refine ⟨tm.getD t undef, by simp, ?_⟩
    split at h
    · simp at h
    · simp at h
    · rename_i u h1 h2
      simp at h; subst h
      exact ⟨hs, h1, .inr ⟨t, rfl, hc.cmp0 h1⟩⟩
  | cell b T =>
    simp only [resV] at h
    split at h
    · rename_i id off he
      obtain ⟨cs, hid, h⟩ := heapCells_inv h
      have hs := hr.slot b
      rw [he] at hs
      obtain ⟨blk, hb, hX⟩ := hs.ptr_inv
      have hcs := (hr.hp.toCells hid hb).drop off
      rw [Nat.zero_add] at hcs
      obtain ⟨u, h1, y, h2, h3, h4, h5, _⟩ := loadCells_sound (P := P) hC hcs h
      simp at h1; subst h1
      refine ⟨y, ?_, h3, h5, .inl h4⟩
      show Sem.run P (do loadVar T (← asAddr (tm.getD b undef))) w = _
      rw [hX]
      simp [asAddr, h2]
    · simp at h

theorem sem_id_map {α : Type} (x : Sem α) : x.bind (fun a => Sem.pure a) = x := by
  induction x <;> simp_all [Sem.bind]
  case frozen h => funext b; cases b <;> simp_all

theorem sem_assoc {α β γ : Type} (x : Sem α) (f : α → Sem β) (g : β → Sem γ) : (x.bind f).bind g = x.bind fun a => (f a).bind g := by
  induction x <;> simp_all [Sem.bind]
  case frozen h => funext b; cases b <;> simp_all

instance semLawful : LawfulMonad Sem := LawfulMonad.mk' Sem (fun x => sem_id_map x) (fun _ _ => rfl) (fun x f g => sem_assoc x f g)

theorem mapM_run {α β : Type} {f : α → Sem β} {as : Array α} {w : World} {ys : List β} (hl : ys.length = as.size) (h : ∀ (i : Nat) x y, as[i]? = some x → ys[i]? = some y → (f x).run P w = .ok y w) :
    (as.mapM f).run P w = .ok ys.toArray w := by
  have key : ∀ (l : List α) (ys : List β), ys.length = l.length → (∀ (i : Nat) x y, l[i]? = some x → ys[i]? = some y → (f x).run P w = .ok y w) → (l.mapM f).run P w = .ok ys w := by
    intro l
    induction l with
    | nil => intro ys hl _; cases ys with | nil => simp | cons y ys => simp at hl
    | cons x l ih =>
      intro ys hl h
      cases ys with
      | nil => simp at hl
      | cons y ys =>
        rw [List.mapM_cons, Sem.run_bind, h 0 x y (by simp) (by simp)]
        simp only [Result.andThen_ok, Sem.run_bind]
        rw [ih ys (by simpa using hl) fun i x' y' hx hy => h (i + 1) x' y' (by simpa using hx) (by simpa using hy)]
        simp
  have h1 := key as.toList ys (by simpa using hl) fun i x y hx hy => h i x y (by simpa using hx) hy
  rw [← Array.toList_mapM, Sem.run_map] at h1
  cases hr : (as.mapM f).run P w with
  | ok arr w' =>
    rw [hr] at h1
    simp only [Result.andThen_ok, Result.ok.injEq] at h1
    obtain ⟨h1, rfl⟩ := h1
    rw [← h1]
  | halt e w' => rw [hr] at h1; simp at h1

theorem resK_sound (hC : TyOk P C) (hr : Rel W0 o sig st a.tmps w) {fn : Func} (hnd : nodupN (tmpsOf fn.results.toList) = true) {v : PV} (h : resK C fn.results.toList st = some v) :
    ∃ y, (results fn a.tmps).run P w = .ok y w ∧ PEnc o w [] v y ∧ ∀ k, Cap (rel (outR fn.results.toList) o) w (.res k) (cmpV v k) (cmpX v y k) := by
  unfold resK at h
  split at h
  · rename_i vs hvs
    rw [bif_some] at h
    obtain ⟨hb, h⟩ := h
    obtain ⟨hlen, hget⟩ := resVs_get hvs
    let F : ResultVar → Sem Value := fun x => match x with
      | .tmp t => pure (a.tmps.getD t undef)
      | .cell b t => do loadVar t (← asAddr (a.tmps.getD b undef))
    have hex : ∀ (i : Nat) v, vs[i]? = some v → ∃ y, (∀ x, fn.results.toList[i]? = some x → (F x).run P w = .ok y w) ∧ PEnc o w sig v y ∧ (∀ us, v ≠ .tup us) ∧ Cap (rel (outR fn.results.toList) o) w (.res i) v y := by
      intro i v hv
      obtain ⟨x, hx, hxv⟩ := hget i v hv
      obtain ⟨y, h1, h2, h3, h4⟩ := resV_sound hC hr hxv
      refine ⟨y, ?_, h2, h3, ?_⟩
      · intro x' hx'
        rw [hx] at hx'; simp only [Option.some.injEq] at hx'; subst hx'
        exact h1
      · rcases h4 with h4 | ⟨t, rfl, h4⟩
        · exact Cap.of_noOwn h4
        · refine cap_rel h4 ?_
          have := resAt_get (n := 0) hnd hx
          rw [Nat.zero_add] at this
          show outR _ (.slot t 0) = _
          simp only [outR, this]
    have hys : ∃ ys : List Value, PEncL o w sig vs ys ∧ (∀ (i : Nat) y, ys[i]? = some y → (∀ x, fn.results.toList[i]? = some x → (F x).run P w = .ok y w) ∧ ∀ v, vs[i]? = some v → (∀ us, v ≠ .tup us) ∧ Cap (rel (outR fn.results.toList) o) w (.res i) v y) := by
      have : ∀ (l : List PV) (m : Nat), (∀ (i : Nat) v, l[i]? = some v → vs[m + i]? = some v) → ∃ ys : List Value, PEncL o w sig l ys ∧ (∀ (i : Nat) y, ys[i]? = some y → (∀ x, fn.results.toList[m + i]? = some x → (F x).run P w = .ok y w) ∧ ∀ v, l[i]? = some v → (∀ us, v ≠ .tup us) ∧ Cap (rel (outR fn.results.toList) o) w (.res (m + i)) v y) := by
        intro l
        induction l with
        | nil => intro m _; exact ⟨[], .nil, fun i y h => by simp at h⟩
        | cons u l ih =>
          intro m hm
          obtain ⟨ys, h1, h2⟩ := ih (m + 1) (fun i v hv => by have := hm (i + 1) v (by simpa using hv); rw [← this]; congr 1; omega)
          obtain ⟨y, e1, e2, e3, e4⟩ := hex m u (by have := hm 0 u (by simp); simpa using this)
          refine ⟨y :: ys, .cons e2 h1, fun i z hz => ?_⟩
          cases i with
          | zero =>
            simp at hz; subst hz
            exact ⟨e1, fun v hv => by simp at hv; subst hv; exact ⟨e3, e4⟩⟩
          | succ i =>
            have := h2 i z (by simpa using hz)
            rw [show m + 1 + i = m + (i + 1) by omega] at this
            exact ⟨this.1, fun v hv => this.2 v (by simpa using hv)⟩
      obtain ⟨ys, h1, h2⟩ := this vs 0 (fun i v hv => by simpa using hv)
      exact ⟨ys, h1, by simpa using h2⟩
    obtain ⟨ys, h1, h2⟩ := hys
    have hl : ys.length = fn.results.size := by rw [← h1.length, hlen]; simp
    have hrun : (fn.results.mapM F).run P w = .ok ys.toArray w := mapM_run hl fun i x y hx hy => (h2 i y hy).1 x (by simpa using hx)
    have hb0 : ∀ {l : List PV} {zs : List Value}, below0s l = true → PEncL o w sig l zs → PEncL o w [] l zs := by
      intro l
      induction l with
      | nil => intro zs _ h; cases h; exact .nil
      | cons u l ih =>
        intro zs hb h
        cases h with | cons hh t =>
        simp only [below0s, Bool.and_eq_true] at hb
        have := below_mono hh hb.1
        rw [List.take_zero] at this
        exact .cons this (ih hb.2 t)
    have hr1 := hb0 hb h1
    have hrun' : (results fn a.tmps).run P w = .ok (if h : ys.toArray.size = 1 then ys.toArray[0] else .tuple ys.toArray) w := by
      unfold results
      rw [Sem.run_bind]
      show ((fn.results.mapM F).run P w).andThen _ = _
      rw [hrun]; rfl
    split at h
    · rename_i u
      simp at h; subst h
      cases hr1 with | cons hh t =>
      rename_i y ys
      cases t
      refine ⟨y, by rw [hrun']; simp, hh, fun k => ?_⟩
      have := (h2 0 y (by simp)).2 u (by simp)
      unfold cmpV
      split
      · rename_i us; exact absurd rfl (this.1 us)
      · by_cases hk : k = 0
        · subst hk
          rw [if_pos rfl]
          have hcx : cmpX u y 0 = y := by
            unfold cmpX; split
            · exact absurd rfl (this.1 _)
            · rfl
          rw [hcx]; exact this.2
        · rw [if_neg hk]; exact Cap.of_noOwn trivial
    · rename_i us hne
      simp at h; subst h
      refine ⟨.tuple ys.toArray, ?_, .tup hr1, fun k => ?_⟩
      · rw [hrun', dif_neg]
        intro h1s
        have : vs.length = 1 := by rw [hr1.length]; simpa using h1s
        obtain ⟨u, rfl⟩ := List.length_eq_one_iff.1 this
        exact hne u rfl
      · simp only [cmpV, cmpX]
        by_cases hk : k < vs.length
        · have hky : k < ys.length := by rw [← h1.length]; exact hk
          have := ((h2 k ys[k] (by simp [hky])).2 vs[k] (by simp [hk])).2
          rw [gt_eq, List.getElem?_eq_getElem hk]
          simpa [hky] using this
        · rw [gt_eq, List.getElem?_eq_none (by omega)]; exact Cap.of_noOwn trivial
  · simp at h

/-- what a call finds of a function -/
theorem enters_of {f : FuncId} {fn : Func} (hf : P.funcs[f]? = some fn) {c : Code} (hb : fn.body = some c) (hn : (fn.name == "runtime.NumGoroutine") = false) : ∀ args w, (callFunc f args).run P w = .ok (.enter f args) w := by
  intro args w
  have hn : ¬ fn.name = "runtime.NumGoroutine" := by simpa using hn
  simp [callFunc, hf, hn, hb]

/-- a function's contract from its word's run -/
theorem soundP_of (hC : TyOk P C) (hE : EnvOk P W0 C) (hm : P.follows .mixedOrders = true) {f : FuncId} {fn : Func} (hf : P.funcs[f]? = some fn) {c : Code} (hb : fn.body = some c) (hn : (fn.name == "runtime.NumGoroutine") = false)
    (hnd : nodupN (tmpsOf fn.results.toList) = true) {L : Lps} (hL : LpsOk C L (loopsOf c)) {S : List PV → Option PV} (h : ∀ args v, S args = some v → runP C L fn.ntmps fn.results.toList c args = some v) : SoundP P W0 f S := by
  refine ⟨enters_of hf hb hn, ?_⟩
  intro args v hs o sig w xs hg hres hx
  have h := h args v hs
  unfold runP at h
  split at h
  · rename_i us hus
    obtain ⟨h1, h2, h3⟩ := argsK_enc hx hus
    refine calls_of_wp hf hb ?_
    -- all that was there is foreign
    let φ : Pl → Pl := fun _ => .ext
    have hst : ∀ b off x, Stab o w b off x → Stab (rel φ o) w b off x := fun _ _ _ h => rel_stab h
    have hg' : Gl W0 (rel φ o) w := hg.relabel φ
    have hx' : PEncL (rel φ o) w [] us xs := h1.mono hst fun _ _ h => h
    have hxl : xs.length = us.length := hx'.length.symm
    have hall : PEncL (rel φ o) w [] (us ++ rep (fn.ntmps - args.length) .undef) (xs ++ List.replicate (fn.ntmps - args.length) undef) := by
      refine hx'.append ?_
      rw [rep_eq]
      generalize fn.ntmps - args.length = m
      induction m with
      | zero => exact .nil
      | succ m ih => exact .cons .undef ih
    have htm : (xs.toArray ++ Array.replicate (fn.ntmps - xs.toArray.size) undef) = (xs ++ List.replicate (fn.ntmps - args.length) undef).toArray := by
      apply Array.ext'
      simp [hxl, h2]
    rw [htm]
    have hrel : Rel W0 (rel φ o) [] ⟨us ++ rep (fn.ntmps - args.length) .undef, []⟩ (xs ++ List.replicate (fn.ntmps - args.length) undef).toArray w := by
      refine ⟨hg', by have := hall.length; simp at this ⊢; omega, fun j => ?_, fun j k => ?_, ⟨rfl, fun id ob h => by simp at h⟩⟩
      · have := hall.get j; simpa using this
      · refine Cap.of_noOwn ?_
        by_cases hj : j < us.length
        · have := h3 j k
          rw [gt_eq] at this
          rw [gt_eq, List.getElem?_append_left hj]
          exact this
        · have : gt PV.undef (us ++ rep (fn.ntmps - args.length) .undef) j = .undef := by
            rw [gt_eq, List.getElem?_append_right (by omega), rep_eq]
            cases hh : (List.replicate (fn.ntmps - args.length) PV.undef)[j - us.length]? with
            | none => rfl
            | some x => have := List.mem_of_getElem? hh; rw [List.mem_replicate] at this; rw [this.2]; rfl
          show (cmpV (gt PV.undef (us ++ rep (fn.ntmps - args.length) .undef) j) k).noOwn
          rw [this]; unfold cmpV; dsimp only; split <;> trivial
    refine pcodeK_sound (a := { tmps := (xs ++ List.replicate (fn.ntmps - args.length) undef).toArray, defers := [] }) hC hE hm c hL hrel rfl ?_ h
    intro e st' o' sig' a' w' ex k1 k2 k3 k4 k5
    have fin : Rel W0 o' sig' st' a'.tmps w' → resK C fn.results.toList st' = some v → a'.defers = [] ∧ ∃ y, (results fn a'.tmps).run P w' = .ok y w' ∧ ∃ x o'', (.returned y : Ending) = .returned x ∧ Grow o w o'' w' ∧ PEnc o'' w' sig v x ∧ ∀ k, Cap o'' w' (.res k) (cmpV v k) (cmpX v x k) := by
      intro hr' hres'
      obtain ⟨y, e1, e2, e3⟩ := resK_sound hC hr' hnd hres'
      refine ⟨k5, y, e1, y, fun b => if b < w.heap.size then o b else rel (outR fn.results.toList) o' b, rfl, ?_, ?_, fun k => ?_⟩
      · refine ⟨k3.os, k3.tape, k3.output, k3.size, fun b hb => ⟨?_, by rw [if_pos hb]⟩, fun b hb => ?_⟩
        · refine (k3.prot b hb ?_).1
          unfold rel
          cases o b <;> trivial
        · by_cases hlt : b < w.heap.size
          · exact Nat.lt_of_lt_of_le hlt k3.size
          · rw [if_neg hlt] at hb
            refine hr'.gl.fin b fun e => hb ?_
            simp [rel, e]
      · refine e2.mono ?_ fun _ _ h => by simp at h
        intro b off x hx
        refine ⟨hx.1, fun lo p hlo => ?_⟩
        dsimp only at hlo
        split at hlo
        · rename_i hlt
          have hpr := (k3.prot b hlt (by unfold rel; cases o b <;> trivial)).2
          have : o' b = some (lo, φ p) := by rw [hpr]; exact rel_some hlo
          exact hx.2 _ _ this
        · unfold rel at hlo
          cases hob : o' b with
          | none => simp [hob] at hlo
          | some q => simp [hob] at hlo; exact hlo.1 ▸ hx.2 q.1 q.2 (by rw [hob])
      · refine (e3 k).mapBlock fun b lo hlo => ⟨rfl, ?_⟩
        rw [if_neg]
        · exact hlo
        · intro hlt
          have hpr := (k3.prot b hlt (by unfold rel; cases o b <;> trivial)).2
          unfold rel at hlo
          rw [hpr] at hlo
          unfold rel at hlo
          cases hob : o b with
          | none => simp [hob] at hlo
          | some q => simp [hob, φ, outR] at hlo
    cases ex with
    | normal => obtain ⟨rfl, k2⟩ := k2; exact fin k2 k1
    | ret => obtain ⟨rfl, k2⟩ := k2; exact fin k2 k1
    | exit id => obtain ⟨rfl, k2⟩ := k2; simp at k1
    | panic ch => obtain ⟨u, x, rfl, k2⟩ := k2; simp at k1
    | goto l => exact k2.elim
    | outgrown => exact k2.elim
  · simp at h

end
end Go.PS
end

section
namespace Go.PS
open Go.RowKit

/-- places reached from values -/
def visit : Nat → List PObj → List Nat → List PV → List Nat
  | 0, _, acc, _ => acc
  | n + 1, H, acc, l => match l with
    | [] => acc
    | .ptr id _ :: l => bif memN id acc then visit n H acc l else (match gt none (H.map some) id with
      | some (.cells vs) => visit n H (acc ++ [id]) (vs ++ l)
      | _ => visit n H (acc ++ [id]) l)
    | .func _ c :: l => visit n H acc (c ++ l)
    | .tup vs :: l => visit n H acc (vs ++ l)
    | _ :: l => visit n H acc l

def idx (i : Nat) : List Nat → Option Nat
  | [] => none
  | j :: l => bif Nat.beq i j then some 0 else (match idx i l with
    | some n => some (n + 1)
    | none => none)

def inV (ids : List Nat) : PV → Option PV
  | .ptr id off => match idx id ids with
    | some j => some (.ptr j off)
    | none => none
  | .func f c => match inVs ids c with
    | some c => some (.func f c)
    | none => none
  | .tup vs => match inVs ids vs with
    | some vs => some (.tup vs)
    | none => none
  | v => some v
where inVs (ids : List Nat) : List PV → Option (List PV)
  | [] => some []
  | v :: l => match inV ids v with
    | some v => match inVs ids l with
      | some l => some (v :: l)
      | none => none
    | none => none

def outV (g : Nat → Nat) : PV → PV
  | .ptr id off => .ptr (g id) off
  | .func f c => .func f (outVs g c)
  | .tup vs => .tup (outVs g vs)
  | v => v
where outVs (g : Nat → Nat) : List PV → List PV
  | [] => []
  | v :: l => outV g v :: outVs g l

def outO (g : Nat → Nat) : PObj → PObj
  | .cells vs => .cells (outV.outVs g vs)
  | .iter s p => .iter s p

def gid (N : Nat) : List Nat → Nat → Nat
  | [], j => N + j
  | i :: _, 0 => i
  | _ :: l, j + 1 => gid N l j

def subO (ids : List Nat) : PObj → Option PObj
  | .cells vs => match inV.inVs ids vs with
    | some vs => some (.cells vs)
    | none => none
  | .iter s p => some (.iter s p)

def subH (ids : List Nat) (H : List PObj) : List Nat → Option (List PObj)
  | [] => some []
  | i :: l => match gt none (H.map some) i with
    | some ob => match subO ids ob with
      | some ob => match subH ids H l with
        | some r => some (ob :: r)
        | none => none
      | none => none
    | none => none

def outOs (g : Nat → Nat) : List PObj → List PObj
  | [] => []
  | ob :: l => outO g ob :: outOs g l

def putH (g : Nat → Nat) : List PObj → List Nat → List PObj → List PObj
  | H, i :: l, ob :: obs => putH g (up H i (outO g ob)) l obs
  | H, _, obs => H ++ outOs g obs

def outOut (g : Nat → Nat) : Out → Out
  | .ret v => .ret (outV g v)
  | .pan v => .pan v

/-- a word on the places that the arguments reach, and no others -/
def frameAt (ids : List Nat) (S : List PV → List PObj → Option (Out × List PObj)) (args : List PV) (H : List PObj) : Option (Out × List PObj) :=
  bif nodupN ids then (match inV.inVs ids args with
    | some as => match subH ids H ids with
      | some H1 => match S as H1 with
        | some (out, H2) => some (outOut (gid H.length ids) out, putH (gid H.length ids) H ids H2)
        | none => none
      | none => none
    | none => none) else none

def frame (S : List PV → List PObj → Option (Out × List PObj)) (args : List PV) (H : List PObj) : Option (Out × List PObj) :=
  frameAt (visit 200 H [] args) S args H

section
variable {P : Program} {C : Ctx} {W0 : World} {o : Own} {sig : List Nat} {st : St} {a : Act} {w : World} {R : Type} {tm : Array Value}

theorem idx_get {i : Nat} {l : List Nat} {j : Nat} (h : idx i l = some j) : l[j]? = some i := by
  induction l generalizing j with
  | nil => simp [idx] at h
  | cons a l ih =>
    simp only [idx] at h
    cases hb : Nat.beq i a with
    | true =>
      rw [hb] at h; simp at h; subst h
      have : i = a := Nat.eq_of_beq_eq_true hb
      simp [this]
    | false =>
      rw [hb] at h
      simp only [cond_false] at h
      split at h
      · rename_i n hn
        simp at h; subst h
        simpa using ih hn
      · simp at h

theorem idx_none {i : Nat} {l : List Nat} (h : idx i l = none) : ∀ j : Nat, l[j]? ≠ some i := by
  induction l with
  | nil => intro j; simp
  | cons a l ih =>
    simp only [idx] at h
    cases hb : Nat.beq i a with
    | true => rw [hb] at h; simp at h
    | false =>
      rw [hb] at h
      simp only [cond_false] at h
      split at h
      · simp at h
      · rename_i hn
        intro j
        cases j with
        | zero => simp; rintro rfl; simp at hb
        | succ j => simpa using ih hn j

theorem nodup_mem {l : List Nat} (h : nodupN l = true) : ∀ {i j : Nat} {x : Nat}, l[i]? = some x → l[j]? = some x → i = j := by
  induction l with
  | nil => intro i j x hi; simp at hi
  | cons a l ih =>
    obtain ⟨h1, h2⟩ := nodupN_spec h
    intro i j x hi hj
    cases i with
    | zero =>
      simp at hi; subst hi
      cases j with
      | zero => rfl
      | succ j => simp at hj; exact absurd (List.mem_of_getElem? hj) h1
    | succ i =>
      cases j with
      | zero => simp at hj; subst hj; simp at hi; exact absurd (List.mem_of_getElem? hi) h1
      | succ j => simp at hi hj; rw [ih h2 hi hj]

theorem idx_nodup {l : List Nat} (h : nodupN l = true) {j x : Nat} (hj : l[j]? = some x) : idx x l = some j := by
  cases hi : idx x l with
  | none => exact absurd hj (idx_none hi j)
  | some i => rw [nodup_mem h (idx_get hi) hj]

theorem gid_lt {N : Nat} {l : List Nat} {j : Nat} (h : j < l.length) : gid N l j = l[j] := by
  induction l generalizing j with
  | nil => simp at h
  | cons a l ih =>
    cases j with
    | zero => rfl
    | succ j => simp only [gid, List.getElem_cons_succ]; exact ih (by simpa using h)

theorem gid_ge {N : Nat} {l : List Nat} {j : Nat} (h : l.length ≤ j) : gid N l j = N + (j - l.length) := by
  induction l generalizing j with
  | nil => simp [gid]
  | cons a l ih =>
    cases j with
    | zero => simp at h
    | succ j => simp only [gid, List.length_cons]; rw [ih (by simpa using h)]; omega

theorem outOs_length (g : Nat → Nat) (l : List PObj) : (outOs g l).length = l.length := by
  induction l with
  | nil => rfl
  | cons a l ih => simp [outOs, ih]

theorem outOs_get (g : Nat → Nat) (l : List PObj) (i : Nat) : (outOs g l)[i]? = (l[i]?).map (outO g) := by
  induction l generalizing i with
  | nil => simp [outOs]
  | cons a l ih => cases i <;> simp [outOs, ih]

theorem putH_length {g : Nat → Nat} {ids : List Nat} {H H2 : List PObj} (hk : ids.length ≤ H2.length) : (putH g H ids H2).length = H.length + (H2.length - ids.length) := by
  induction ids generalizing H H2 with
  | nil => simp [putH, outOs_length]
  | cons i ids ih =>
    cases H2 with
    | nil => simp at hk
    | cons ob H2 =>
      simp only [putH]
      rw [ih (by simpa using hk)]
      simp

theorem putH_new {g : Nat → Nat} {ids : List Nat} {H H2 : List PObj} (hk : ids.length ≤ H2.length) (m : Nat) : (putH g H ids H2)[H.length + m]? = (H2[ids.length + m]?).map (outO g) := by
  induction ids generalizing H H2 with
  | nil => simp only [putH, List.length_nil, Nat.zero_add]; rw [List.getElem?_append_right (by omega), outOs_get]; simp
  | cons i ids ih =>
    cases H2 with
    | nil => simp at hk
    | cons ob H2 =>
      simp only [putH]
      have := ih (H := up H i (outO g ob)) (H2 := H2) (by simpa using hk)
      rw [up_length] at this
      rw [this]
      simp only [List.length_cons]
      rw [show ids.length + 1 + m = (ids.length + m) + 1 by omega, List.getElem?_cons_succ]

theorem putH_old {g : Nat → Nat} {ids : List Nat} {H H2 : List PObj} (hk : ids.length ≤ H2.length) {id : Nat} (hid : id < H.length) (hn : idx id ids = none) : (putH g H ids H2)[id]? = H[id]? := by
  induction ids generalizing H H2 with
  | nil => simp only [putH]; rw [List.getElem?_append_left hid]
  | cons i ids ih =>
    cases H2 with
    | nil => simp at hk
    | cons ob H2 =>
      simp only [putH]
      simp only [idx] at hn
      cases hb : Nat.beq id i with
      | true => rw [hb] at hn; simp at hn
      | false =>
        rw [hb] at hn
        simp only [cond_false] at hn
        split at hn
        · simp at hn
        · rename_i hn'
          rw [ih (by simpa using hk) (by simpa using hid) hn', up_eq, List.getElem?_set, if_neg (by rintro rfl; simp at hb)]

theorem putH_in {g : Nat → Nat} {ids : List Nat} {H H2 : List PObj} (hk : ids.length ≤ H2.length) (hnd : nodupN ids = true) {id j : Nat} (hid : id < H.length) (hj : ids[j]? = some id) : (putH g H ids H2)[id]? = (H2[j]?).map (outO g) := by
  induction ids generalizing H H2 j with
  | nil => simp at hj
  | cons i ids ih =>
    cases H2 with
    | nil => simp at hk
    | cons ob H2 =>
      obtain ⟨h1, h2⟩ := nodupN_spec hnd
      simp only [putH]
      cases j with
      | zero =>
        simp at hj; subst hj
        rw [putH_old (by simpa using hk) (by simpa using hid), up_eq, List.getElem?_set]
        · simp [hid]
        · cases hx : idx i ids with
          | none => rfl
          | some j => exact absurd (List.mem_of_getElem? (idx_get hx)) h1
      | succ j =>
        simp at hj
        rw [ih (by simpa using hk) h2 (by simpa using hid) hj]
        simp

theorem subH_get {ids : List Nat} {H : List PObj} : ∀ {l : List Nat} {H1 : List PObj}, subH ids H l = some H1 → H1.length = l.length ∧ ∀ (j : Nat) i, l[j]? = some i → ∃ ob ob1, H[i]? = some ob ∧ subO ids ob = some ob1 ∧ H1[j]? = some ob1 := by
  intro l
  induction l with
  | nil => intro H1 h; simp [subH] at h; subst h; simp
  | cons i l ih =>
    intro H1 h
    simp only [subH] at h
    split at h
    · rename_i ob hob
      split at h
      · rename_i ob1 hob1
        split at h
        · rename_i r hr
          simp at h; subst h
          obtain ⟨h1, h2⟩ := ih hr
          refine ⟨by simp [h1], fun j i' hj => ?_⟩
          cases j with
          | zero => simp at hj; subst hj; rw [gt_some] at hob; exact ⟨ob, ob1, hob, hob1, by simp⟩
          | succ j => simpa using h2 j i' (by simpa using hj)
        · simp at h
      · simp at h
    · simp at h

/-! values in and out -/

section
variable {ids : List Nat} {o1 : Own} {sig1 : List Nat} (hs : ∀ b off x, Stab o w b off x → Stab o1 w b off x) (hi : ∀ (id j : Nat) b, idx id ids = some j → sig[id]? = some b → sig1[j]? = some b)
include hs hi
mutual
theorem inV_spec {v : PV} {x : Value} {u : PV} (h : PEnc o w sig v x) (g : inV ids v = some u) : PEnc o1 w sig1 u x := by
  match h with
  | .d h => simp [inV] at g; subst g; exact .d (h.mono hs)
  | .own h => simp [inV] at g; subst g; exact .own (h.mono hs)
  | .ptr (id := id) (b := b) h =>
    simp only [inV] at g
    split at g
    · rename_i j hj
      simp at g; subst g
      exact .ptr (hi id j b hj h)
    · simp at g
  | .ro ys hx hc hsc => simp [inV] at g; subst g; exact .ro ys (hx.mono hs) (fun j y hj => hs _ _ _ (hc j y hj)) hsc
  | .func h =>
    simp only [inV] at g
    split at g
    · rename_i c hc
      simp at g; subst g
      exact .func (inVs_spec h hc)
    · simp at g
  | .tup h =>
    simp only [inV] at g
    split at g
    · rename_i c hc
      simp at g; subst g
      exact .tup (inVs_spec h hc)
    · simp at g
  | .undef => simp [inV] at g; subst g; exact .undef
  | .skp => simp [inV] at g; subst g; exact .skp
theorem inVs_spec {vs : List PV} {xs : List Value} {us : List PV} (h : PEncL o w sig vs xs) (g : inV.inVs ids vs = some us) : PEncL o1 w sig1 us xs := by
  match h with
  | .nil => simp [inV.inVs] at g; subst g; exact .nil
  | .cons hh t =>
    simp only [inV.inVs] at g
    split at g
    · rename_i u hu
      split at g
      · rename_i l hl
        simp at g; subst g
        exact .cons (inV_spec hh hu) (inVs_spec t hl)
      · simp at g
    · simp at g
end
end

theorem inV_noOwn {ids : List Nat} {v u : PV} (h : inV ids v = some u) : u.cellOk = v.cellOk ∧ ∀ (o : Own) (w : World) p x, Cap o w p v x → Cap o w p u x := by
  cases v <;> simp only [inV] at h <;> (try split at h) <;> simp at h <;> subst h <;> exact ⟨rfl, fun _ _ _ _ h => by first | exact h | trivial⟩

theorem inVs_get {ids : List Nat} : ∀ {vs us : List PV}, inV.inVs ids vs = some us → us.length = vs.length ∧ ∀ k, k < vs.length → inV ids (gt .undef vs k) = some (gt .undef us k) := by
  intro vs
  induction vs with
  | nil => intro us h; simp [inV.inVs] at h; subst h; simp
  | cons v vs ih =>
    intro us h
    simp only [inV.inVs] at h
    split at h
    · rename_i u hu
      split at h
      · rename_i l hl
        simp at h; subst h
        obtain ⟨h1, h2⟩ := ih hl
        refine ⟨by simp [h1], fun k hk => ?_⟩
        cases k with
        | zero => simpa [gt] using hu
        | succ k => simpa [gt] using h2 k (by simpa using hk)
      · simp at h
    · simp at h

section
variable {g : Nat → Nat} {o2 : Own} {sig2 : List Nat} (hs : ∀ b off x, Stab o w b off x → Stab o2 w b off x) (hi : ∀ (j : Nat) b, sig[j]? = some b → sig2[g j]? = some b)
include hs hi
mutual
theorem outV_spec {v : PV} {x : Value} (h : PEnc o w sig v x) : PEnc o2 w sig2 (outV g v) x := by
  match h with
  | .d h => exact .d (h.mono hs)
  | .own h => exact .own (h.mono hs)
  | .ptr (id := id) (b := b) h => exact .ptr (hi id b h)
  | .ro ys hx hc hsc => exact .ro ys (hx.mono hs) (fun j y hj => hs _ _ _ (hc j y hj)) hsc
  | .func h => exact .func (outVs_spec h)
  | .tup h => exact .tup (outVs_spec h)
  | .undef => exact .undef
  | .skp => exact .skp
theorem outVs_spec {vs : List PV} {xs : List Value} (h : PEncL o w sig vs xs) : PEncL o2 w sig2 (outV.outVs g vs) xs := by
  match h with
  | .nil => exact .nil
  | .cons hh t => exact .cons (outV_spec hh) (outVs_spec t)
end
end

theorem outV_cap {g : Nat → Nat} (v : PV) : (outV g v).cellOk = v.cellOk ∧ ∀ (o : Own) (w : World) p x, Cap o w p v x → Cap o w p (outV g v) x := by
  cases v <;> exact ⟨rfl, fun _ _ _ _ h => by first | exact h | trivial⟩

theorem outVs_get (g : Nat → Nat) : ∀ (vs : List PV) k, gt .undef (outV.outVs g vs) k = outV g (gt .undef vs k) := by
  intro vs
  induction vs with
  | nil => intro k; simp [outV.outVs, gt, outV]
  | cons v vs ih => intro k; cases k <;> simp [outV.outVs, gt, ih]

theorem outVs_length (g : Nat → Nat) (vs : List PV) : (outV.outVs g vs).length = vs.length := by
  induction vs with
  | nil => rfl
  | cons v vs ih => simp [outV.outVs, ih]

theorem outV_cmp (g : Nat → Nat) (v : PV) (k : Nat) (x : Value) : cmpV (outV g v) k = outV g (cmpV v k) ∧ cmpX (outV g v) x k = cmpX v x k := by
  cases v
  case tup vs => exact ⟨outVs_get g vs k, by cases x <;> rfl⟩
  all_goals exact ⟨by by_cases h : k = 0 <;> simp [outV, cmpV, h], by cases x <;> rfl⟩

/-- what lies outside the frame is foreign -/
def inP (ids : List Nat) (p : Pl) : Pl :=
  match p with
  | .obj i => match idx i ids with | some j => .obj j | none => .ext
  | .cell i off => match idx i ids with | some j => .cell j off | none => .ext
  | p => p

def outP (g : Nat → Nat) (p : Pl) : Pl :=
  match p with
  | .obj j => .obj (g j)
  | .cell j off => .cell (g j) off
  | p => p

def hidP (ids : List Nat) (p : Pl) : Bool :=
  match p with
  | .obj i => (idx i ids).isNone
  | .cell i _ => (idx i ids).isNone
  | _ => false

theorem inP_hid {ids : List Nat} {p : Pl} (h : hidP ids p = true) : inP ids p = .ext := by
  cases p <;> simp [hidP] at h <;> simp [inP, h]

def outOwn (ids : List Nat) (g : Nat → Nat) (o o' : Own) : Own := fun b =>
  match o b with
  | some (lo, p) => bif hidP ids p then some (lo, p) else rel (outP g) o' b
  | none => rel (outP g) o' b

/-- a call in a frame, and what its end comes to there -/
theorem frame_core {S : List PV → List PObj → Option (Out × List PObj)} (ids : List Nat) {args : List PV} {H : List PObj} {out : Out} {H' : List PObj}
    (hs : frameAt ids S args H = some (out, H')) {xs : List Value} (hg : Gl W0 o w) (hh : RelH o sig H w) (hx : PEncL o w sig args xs) :
    ∃ as H1 out2 H2 o1 sig1, S as H1 = some (out2, H2) ∧ Gl W0 o1 w ∧ RelH o1 sig1 H1 w ∧ PEncL o1 w sig1 as xs ∧ (∀ b off x, Stab o w b off x → Stab o1 w b off x) ∧ ∀ e w', Post W0 o1 sig1 w out2 H2 e w' → Post W0 o sig w out H' e w' := by
  unfold PS.frameAt at hs
  rw [bif_some] at hs
  obtain ⟨hnd, hs⟩ := hs
  split at hs
  rotate_left; · simp at hs
  rename_i as has
  split at hs
  rotate_left; · simp at hs
  rename_i H1 hH1
  split at hs
  rotate_left; · simp at hs
  rename_i out2 H2 hcall
  simp only [Option.some.injEq, Prod.mk.injEq] at hs
  obtain ⟨rfl, rfl⟩ := hs
  obtain ⟨hl1, hget1⟩ := subH_get hH1
  have hidlt : ∀ (j : Nat) i, ids[j]? = some i → i < H.length := by
    intro j i hj
    obtain ⟨ob, _, h1, _⟩ := hget1 j i hj
    exact (List.getElem?_eq_some_iff.1 h1).1
  let g := gid H.length ids
  let o1 : Own := rel (inP ids) o
  let sig1 : List Nat := ids.map fun i => sig.getD i 0
  have hsig1 : ∀ (j : Nat) i b, ids[j]? = some i → sig[i]? = some b → sig1[j]? = some b := by
    intro j i b hj hb
    simp only [sig1, List.getElem?_map, hj, Option.map_some, List.getD_eq_getElem?_getD, hb, Option.getD_some]
  have hst1 : ∀ b off x, Stab o w b off x → Stab o1 w b off x := fun _ _ _ h => rel_stab h
  have ho1 : ∀ b lo p, o b = some (lo, p) → o1 b = some (lo, inP ids p) := fun b lo p h => rel_some h
  have hi1 : ∀ (id j : Nat) b, idx id ids = some j → sig[id]? = some b → sig1[j]? = some b := fun id j b h1 h2 => hsig1 j id b (idx_get h1) h2
  have hr1 : RelH o1 sig1 H1 w := by
    refine ⟨by simp [sig1, hl1], fun j ob1 hj => ?_⟩
    have hjl : j < ids.length := by rw [← hl1]; exact (List.getElem?_eq_some_iff.1 hj).1
    have hji : ids[j]? = some ids[j] := List.getElem?_eq_getElem hjl
    obtain ⟨ob, ob1', h1, h2, h3⟩ := hget1 j _ hji
    rw [hj] at h3; simp at h3; subst h3
    obtain ⟨b, e1, e2, e3⟩ := hh.obj _ ob h1
    have hix : idx ids[j] ids = some j := idx_nodup hnd hji
    refine ⟨b, hsig1 j _ b hji e1, by rw [ho1 _ _ _ e2]; simp [inP, hix], ?_⟩
    cases ob with
    | iter s pos => simp [subO] at h2; subst h2; exact e3
    | cells vs =>
      simp only [subO] at h2
      split at h2
      · rename_i us hus
        simp at h2; subst h2
        obtain ⟨arr, T, h4, h5, h6⟩ := e3
        obtain ⟨u1, u2⟩ := inVs_get hus
        refine ⟨arr, T, h4, by rw [h5, u1], fun off hoff => ?_⟩
        rw [u1] at hoff
        obtain ⟨k1, k2, k3⟩ := h6 off hoff
        obtain ⟨n1, n2⟩ := inV_noOwn (u2 off hoff)
        refine ⟨inV_spec hst1 hi1 k1 (u2 off hoff), n2 _ _ _ _ (k2.mapBlock fun b lo hb => ⟨rfl, ?_⟩), by rw [n1]; exact k3⟩
        rw [ho1 _ _ _ hb]; simp [inP, hix]
      · simp at h2
  refine ⟨as, H1, out2, H2, o1, sig1, hcall, hg.relabel _, hr1, inVs_spec hst1 hi1 hx has, hst1, ?_⟩
  rintro e w' ⟨o', sig', g', rh', hst', hse', hpost⟩
  have hk : ids.length ≤ H2.length := by
    rw [← rh'.sigl]
    rcases Nat.eq_zero_or_pos ids.length with h0 | h0
    · omega
    · have : sig1.length = ids.length := by simp [sig1]
      have h1 : sig1[ids.length - 1]? = some sig1[ids.length - 1] := List.getElem?_eq_getElem (by omega)
      have := (List.getElem?_eq_some_iff.1 (hse' _ _ h1)).1
      omega
  let o2 : Own := outOwn ids g o o'
  have hidden : ∀ b lo p, o b = some (lo, p) → hidP ids p = true → w'.heap[b]? = w.heap[b]? ∧ o' b = some (lo, .ext) := by
    intro b lo p hb hp
    have h1 : o1 b = some (lo, .ext) := by rw [ho1 _ _ _ hb, inP_hid hp]
    obtain ⟨e1, e2⟩ := hst'.prot b (hg.fin b (by rw [hb]; simp)) (by rw [h1]; trivial)
    exact ⟨e1, by rw [e2, h1]⟩
  have o2_hid : ∀ b lo p, o b = some (lo, p) → hidP ids p = true → o2 b = some (lo, p) := by
    intro b lo p hb hp
    show outOwn ids g o o' b = _
    simp only [outOwn, hb, hp, cond_true]
  have o2_alt : ∀ b, (∃ lo p, o b = some (lo, p) ∧ hidP ids p = true) ∨ o2 b = rel (outP g) o' b := by
    intro b
    cases hb : o b with
    | none => right; show outOwn ids g o o' b = _; simp only [outOwn, hb]
    | some q =>
      obtain ⟨lo, p⟩ := q
      cases hp : hidP ids p with
      | true => exact .inl ⟨lo, p, rfl, hp⟩
      | false => right; show outOwn ids g o o' b = _; simp only [outOwn, hb, hp, cond_false]
  have o2_of : ∀ b lo p, o' b = some (lo, p) → p ≠ .ext → o2 b = some (lo, outP g p) := by
    intro b lo p hb hp
    rcases o2_alt b with ⟨lo', q, h1, h2⟩ | h
    · rw [(hidden b lo' q h1 h2).2] at hb
      simp at hb; exact absurd hb.2.symm hp
    · rw [h]; exact rel_some hb
  have hst2 : ∀ b off x, Stab o' w' b off x → Stab o2 w' b off x := by
    intro b off x hx
    refine ⟨hx.1, fun lo p hlo => ?_⟩
    rcases o2_alt b with ⟨lo', q, h1, h2⟩ | h
    · rw [o2_hid b lo' q h1 h2] at hlo
      simp at hlo
      exact hlo.1 ▸ hx.2 _ _ (hidden b lo' q h1 h2).2
    · rw [h] at hlo
      unfold rel at hlo
      cases hb : o' b with
      | none => simp [hb] at hlo
      | some q => simp [hb] at hlo; exact hlo.1 ▸ hx.2 q.1 q.2 (by rw [hb])
  have cap2 : ∀ {p : Pl} {v : PV} {x : Value}, p ≠ .ext → Cap o' w' p v x → Cap o2 w' (outP g p) v x := fun hp hcap => hcap.mapBlock fun b lo hb => ⟨rfl, o2_of b lo _ hb hp⟩
  have hstep : Step o w o2 w' := by
    refine ⟨hst'.os, hst'.tape, hst'.output, hst'.size, fun b hb hp => ?_, fun b off x hx => hst2 _ _ _ (hst'.stab _ _ _ (hst1 _ _ _ hx))⟩
    have h1 : o1 b = o b := by
      show rel (inP ids) o b = o b
      unfold rel
      cases hob : o b with
      | none => rfl
      | some q =>
        obtain ⟨lo, p⟩ := q
        rw [hob] at hp
        cases p <;> simp [Prot] at hp
        rfl
    obtain ⟨e1, e2⟩ := hst'.prot b hb (by rw [h1]; exact hp)
    refine ⟨e1, ?_⟩
    rcases o2_alt b with ⟨lo', q, k1, k2⟩ | h
    · rw [o2_hid b lo' q k1 k2, k1]
    · rw [h]
      unfold rel
      rw [e2, h1]
      cases hob : o b with
      | none => rfl
      | some q =>
        obtain ⟨lo, p⟩ := q
        rw [hob] at hp
        cases p <;> simp [Prot] at hp
        rfl
  have hg2 : Gl W0 o2 w' := by
    refine ⟨g'.size, fun b hb => ⟨(g'.keep b hb).1, ?_⟩, fun b hb => ?_⟩
    · rcases o2_alt b with ⟨lo', q, k1, k2⟩ | h
      · rw [(hg.keep b hb).2] at k1; simp at k1
      · rw [h]; simp [rel, (g'.keep b hb).2]
    · rcases o2_alt b with ⟨lo', q, k1, k2⟩ | h
      · exact Nat.lt_of_lt_of_le (hg.fin b (by rw [k1]; simp)) hst'.size
      · refine g'.fin b fun e => hb ?_
        rw [h]; simp [rel, e]
  let sig2 : List Nat := sig ++ sig'.drop ids.length
  have hi2 : ∀ (j : Nat) b, sig'[j]? = some b → sig2[g j]? = some b := by
    intro j b hj
    by_cases hjk : j < ids.length
    · have hji : ids[j]? = some ids[j] := List.getElem?_eq_getElem hjk
      have hgj : g j = ids[j] := gid_lt hjk
      have hlt : ids[j] < sig.length := by rw [hh.sigl]; exact hidlt j _ hji
      have h1 := hse' j _ (hsig1 j _ _ hji (List.getElem?_eq_getElem hlt))
      rw [hj] at h1
      rw [hgj]
      show (sig ++ sig'.drop ids.length)[ids[j]]? = _
      rw [List.getElem?_append_left hlt, List.getElem?_eq_getElem hlt]
      exact h1.symm
    · have hgj : g j = H.length + (j - ids.length) := gid_ge (by omega)
      rw [hgj]
      show (sig ++ sig'.drop ids.length)[H.length + (j - ids.length)]? = _
      rw [List.getElem?_append_right (by rw [hh.sigl]; omega), List.getElem?_drop, hh.sigl]
      rw [show ids.length + (H.length + (j - ids.length) - H.length) = j by omega]
      exact hj
  have hse2 : SigExt sig sig2 := fun id b hid => by
    show (sig ++ sig'.drop ids.length)[id]? = _
    rw [List.getElem?_append_left (List.getElem?_eq_some_iff.1 hid).1]; exact hid
  have conv : ∀ (j : Nat) b ob, ObjEnc o' w' sig' j b ob → ObjEnc o2 w' sig2 (g j) b (outO g ob) := by
    intro j b ob h
    cases ob with
    | iter s pos => exact h
    | cells vs =>
      obtain ⟨arr, T, h4, h5, h6⟩ := h
      refine ⟨arr, T, h4, by rw [h5, outVs_length], fun off hoff => ?_⟩
      rw [outVs_length] at hoff
      obtain ⟨k1, k2, k3⟩ := h6 off hoff
      rw [outVs_get]
      obtain ⟨n1, n2⟩ := outV_cap (g := g) (gt .undef vs off)
      exact ⟨outV_spec hst2 hi2 k1, n2 _ _ _ _ (cap2 (p := .cell j off) (by simp) k2), by rw [n1]; exact k3⟩
  have hrh2 : RelH o2 sig2 (putH g H ids H2) w' := by
    refine ⟨?_, fun id ob hid => ?_⟩
    · rw [putH_length hk]
      show (sig ++ sig'.drop ids.length).length = _
      rw [List.length_append, List.length_drop, hh.sigl, rh'.sigl]
    · by_cases hlt : id < H.length
      · cases hix : idx id ids with
        | some j =>
          have hji := idx_get hix
          rw [putH_in hk hnd hlt hji] at hid
          cases hob : H2[j]? with
          | none => rw [hob] at hid; simp at hid
          | some ob2 =>
            rw [hob] at hid; simp at hid; subst hid
            obtain ⟨b, h1, h2, h3⟩ := rh'.obj j ob2 hob
            have hgj : g j = id := by
              have hjk := (List.getElem?_eq_some_iff.1 hji).1
              rw [show g j = ids[j] from gid_lt hjk]
              rw [List.getElem?_eq_getElem hjk] at hji; simpa using hji
            have := conv j b ob2 h3
            rw [hgj] at this
            refine ⟨b, by rw [← hgj]; exact hi2 j b h1, ?_, this⟩
            rw [o2_of b 0 _ h2 (by simp)]; simp [outP, hgj]
        | none =>
          rw [putH_old hk hlt hix] at hid
          obtain ⟨b, h1, h2, h3⟩ := hh.obj id ob hid
          have hhid : hidP ids (.obj id) = true := by simp [hidP, hix]
          refine ⟨b, hse2 id b h1, o2_hid b 0 _ h2 hhid, ?_⟩
          have hsame := (hidden b 0 _ h2 hhid).1
          cases ob with
          | iter s pos => unfold ObjEnc at *; rw [hsame]; exact h3
          | cells vs =>
            obtain ⟨arr, T, h4, h5, h6⟩ := h3
            refine ⟨arr, T, by rw [hsame]; exact h4, h5, fun off hoff => ?_⟩
            obtain ⟨k1, k2, k3⟩ := h6 off hoff
            refine ⟨k1.mono hstep.stab hse2, k2.mapBlock fun b' lo hb' => ?_, k3⟩
            have hh2 : hidP ids (.cell id off) = true := by simp [hidP, hix]
            exact ⟨(hidden b' lo _ hb' hh2).1, o2_hid b' lo _ hb' hh2⟩
      · obtain ⟨m, rfl⟩ : ∃ m, id = H.length + m := ⟨id - H.length, by omega⟩
        rw [putH_new hk] at hid
        cases hob : H2[ids.length + m]? with
        | none => rw [hob] at hid; simp at hid
        | some ob2 =>
          rw [hob] at hid; simp at hid; subst hid
          obtain ⟨b, h1, h2, h3⟩ := rh'.obj _ ob2 hob
          have hgj : g (ids.length + m) = H.length + m := by
            rw [show g (ids.length + m) = H.length + (ids.length + m - ids.length) from gid_ge (by omega)]; congr 1; omega
          have := conv _ b ob2 h3
          rw [hgj] at this
          refine ⟨b, by rw [← hgj]; exact hi2 _ b h1, ?_, this⟩
          rw [o2_of b 0 _ h2 (by simp)]; simp [outP, hgj]
  refine ⟨o2, sig2, hg2, hrh2, hstep, hse2, ?_⟩
  cases out2 with
  | ret v =>
    cases e with
    | returned x =>
      obtain ⟨hv, hcap⟩ := hpost
      refine ⟨outV_spec hst2 hi2 hv, fun k => ?_⟩
      obtain ⟨c1, c2⟩ := outV_cmp g v k x
      show Cap o2 w' (.res k) (cmpV (outV g v) k) (cmpX (outV g v) x k)
      rw [c1, c2]
      exact (outV_cap (g := g) _).2 _ _ _ _ (cap2 (p := .res k) (by simp) (hcap k))
    | panicked _ => exact hpost.elim
    | outgrown => exact hpost.elim
  | pan v =>
    cases e with
    | returned x => exact hpost.elim
    | panicked chain =>
      obtain ⟨x, hx, rfl⟩ := hpost
      exact ⟨x, hx.mono hst2, rfl⟩
    | outgrown => exact hpost.elim

/-- a contract holds in every frame -/
theorem Sound.frameAt {f : FuncId} {S : List PV → List PObj → Option (Out × List PObj)} (hS : Sound P W0 f S) (ids : List Nat) {args : List PV} {H : List PObj} {out : Out} {H' : List PObj}
    (hs : PS.frameAt ids S args H = some (out, H')) {xs : List Value} (hg : Gl W0 o w) (hh : RelH o sig H w) (hx : PEncL o w sig args xs) : Calls P f xs.toArray w (Post W0 o sig w out H') := by
  obtain ⟨as, H1, out2, H2, o1, sig1, h1, h2, h3, h4, _, h5⟩ := frame_core ids hs hg hh hx
  exact (hS.calls as H1 out2 H2 h1 o1 sig1 w xs h2 h3 h4).mono h5

theorem Sound.frame {f : FuncId} {S : List PV → List PObj → Option (Out × List PObj)} (hS : Sound P W0 f S) : Sound P W0 f (PS.frame S) :=
  ⟨hS.enters, fun _ _ _ _ hs _ _ _ _ hg hh hx => hS.frameAt _ hs hg hh hx⟩

end
end Go.PS
end

section
namespace Go.PS
open Go.RowKit

def single : List PV → PV
  | [v] => v
  | vs => .tup vs

/-- what a call hands back, and the memory behind it: what is new falls away where nothing leads to it -/
def retK (C : Ctx) (m : Nat) (rs : List ResultVar) (st : St) : Option (Out × List PObj) :=
  match resVs C st rs with
  | some vs => bif belowsAll m vs && belowH m (tk st.heap m) then some (.ret (single vs), tk st.heap m) else some (.ret (single vs), st.heap)
  | none => none

def panK (m : Nat) (v : DV) (h : List PObj) : Option (Out × List PObj) :=
  bif belowH m (tk h m) then some (.pan v, tk h m) else some (.pan v, h)

def argsE : List PV → Option (List PV)
  | [] => some []
  | v :: l => bif isTup v then none else (match argsE l with | some vs => some (v.plain :: vs) | none => none)

/-- a call of a function that may change what is there -/
noncomputable def runE (C : Ctx) (L : Lps) (n : Nat) (rs : List ResultVar) (c : Code) (args : List PV) (H : List PObj) : Option (Out × List PObj) :=
  match argsE args with
  | some vs => pcodeK C L c ⟨vs ++ rep (n - args.length) .undef, H⟩ fun e st => match e with
    | .normal | .ret => retK C H.length rs st
    | .pan v => panK H.length v st.heap
    | .exit _ => none
  | none => none

section
variable {P : Program} {C : Ctx} {W0 : World} {o : Own} {sig : List Nat} {st : St} {a : Act} {w : World} {R : Type} {tm : Array Value}

theorem resVs_sound (hC : TyOk P C) (hr : Rel W0 o sig st a.tmps w) {fn : Func} (hnd : nodupN (tmpsOf fn.results.toList) = true) {vs : List PV} (hvs : resVs C st fn.results.toList = some vs) :
    ∃ y, (results fn a.tmps).run P w = .ok y w ∧ PEnc o w sig (single vs) y ∧ (∀ n, belowsAll n vs = true → PEnc o w (sig.take n) (single vs) y) ∧ ∀ k, Cap (rel (outR fn.results.toList) o) w (.res k) (cmpV (single vs) k) (cmpX (single vs) y k) := by
  obtain ⟨hlen, hget⟩ := resVs_get hvs
  let F : ResultVar → Sem Value := fun x => match x with
    | .tmp t => pure (a.tmps.getD t undef)
    | .cell b t => do loadVar t (← asAddr (a.tmps.getD b undef))
  have hex : ∀ (i : Nat) v, vs[i]? = some v → ∃ y, (∀ x, fn.results.toList[i]? = some x → (F x).run P w = .ok y w) ∧ PEnc o w sig v y ∧ (∀ us, v ≠ .tup us) ∧ Cap (rel (outR fn.results.toList) o) w (.res i) v y := by
    intro i v hv
    obtain ⟨x, hx, hxv⟩ := hget i v hv
    obtain ⟨y, h1, h2, h3, h4⟩ := resV_sound hC hr hxv
    refine ⟨y, ?_, h2, h3, ?_⟩
    · intro x' hx'
      rw [hx] at hx'; simp only [Option.some.injEq] at hx'; subst hx'
      exact h1
    · rcases h4 with h4 | ⟨t, rfl, h4⟩
      · exact Cap.of_noOwn h4
      · refine cap_rel h4 ?_
        have := resAt_get (n := 0) hnd hx
        rw [Nat.zero_add] at this
        show outR _ (.slot t 0) = _
        simp only [outR, this]
  have hys : ∃ ys : List Value, PEncL o w sig vs ys ∧ (∀ (i : Nat) y, ys[i]? = some y → (∀ x, fn.results.toList[i]? = some x → (F x).run P w = .ok y w) ∧ ∀ v, vs[i]? = some v → (∀ us, v ≠ .tup us) ∧ Cap (rel (outR fn.results.toList) o) w (.res i) v y) := by
    have : ∀ (l : List PV) (m : Nat), (∀ (i : Nat) v, l[i]? = some v → vs[m + i]? = some v) → ∃ ys : List Value, PEncL o w sig l ys ∧ (∀ (i : Nat) y, ys[i]? = some y → (∀ x, fn.results.toList[m + i]? = some x → (F x).run P w = .ok y w) ∧ ∀ v, l[i]? = some v → (∀ us, v ≠ .tup us) ∧ Cap (rel (outR fn.results.toList) o) w (.res (m + i)) v y) := by
      intro l
      induction l with
      | nil => intro m _; exact ⟨[], .nil, fun i y h => by simp at h⟩
      | cons u l ih =>
        intro m hm
        obtain ⟨ys, h1, h2⟩ := ih (m + 1) (fun i v hv => by have := hm (i + 1) v (by simpa using hv); rw [← this]; congr 1; omega)
        obtain ⟨y, e1, e2, e3, e4⟩ := hex m u (by have := hm 0 u (by simp); simpa using this)
        refine ⟨y :: ys, .cons e2 h1, fun i z hz => ?_⟩
        cases i with
        | zero =>
          simp at hz; subst hz
          exact ⟨e1, fun v hv => by simp at hv; subst hv; exact ⟨e3, e4⟩⟩
        | succ i =>
          have := h2 i z (by simpa using hz)
          rw [show m + 1 + i = m + (i + 1) by omega] at this
          exact ⟨this.1, fun v hv => this.2 v (by simpa using hv)⟩
    obtain ⟨ys, h1, h2⟩ := this vs 0 (fun i v hv => by simpa using hv)
    exact ⟨ys, h1, by simpa using h2⟩
  obtain ⟨ys, h1, h2⟩ := hys
  have hl : ys.length = fn.results.size := by rw [← h1.length, hlen]; simp
  have hrun : (fn.results.mapM F).run P w = .ok ys.toArray w := mapM_run hl fun i x y hx hy => (h2 i y hy).1 x (by simpa using hx)
  have hrun' : (results fn a.tmps).run P w = .ok (if h : ys.toArray.size = 1 then ys.toArray[0] else .tuple ys.toArray) w := by
    unfold results
    rw [Sem.run_bind]
    show ((fn.results.mapM F).run P w).andThen _ = _
    rw [hrun]; rfl
  have hbl : ∀ n {l : List PV} {zs : List Value}, belowsAll n l = true → PEncL o w sig l zs → PEncL o w (sig.take n) l zs := by
    intro n l
    induction l with
    | nil => intro zs _ h; cases h; exact .nil
    | cons u l ih =>
      intro zs hb h
      cases h with | cons hh t =>
      simp only [belowsAll, Bool.and_eq_true] at hb
      exact .cons (below_mono hh hb.1) (ih hb.2 t)
  unfold single
  split
  · rename_i u
    cases h1 with | cons hh t =>
    rename_i y ys
    cases t
    refine ⟨y, by rw [hrun']; simp, hh, fun n hn => ?_, fun k => ?_⟩
    · simp only [belowsAll, Bool.and_true] at hn
      exact below_mono hh hn
    have := (h2 0 y (by simp)).2 u (by simp)
    unfold cmpV
    split
    · rename_i us; exact absurd rfl (this.1 us)
    · by_cases hk : k = 0
      · subst hk
        rw [if_pos rfl]
        have hcx : cmpX u y 0 = y := by
          unfold cmpX; split
          · exact absurd rfl (this.1 _)
          · rfl
        rw [hcx]; exact this.2
      · rw [if_neg hk]; exact Cap.of_noOwn trivial
  · rename_i us hne
    refine ⟨.tuple ys.toArray, ?_, .tup h1, fun n hn => .tup (hbl n hn h1), fun k => ?_⟩
    · rw [hrun', dif_neg]
      intro h1s
      have : vs.length = 1 := by rw [h1.length]; simpa using h1s
      obtain ⟨u, rfl⟩ := List.length_eq_one_iff.1 this
      exact hne u rfl
    · simp only [cmpV, cmpX]
      by_cases hk : k < vs.length
      · have hky : k < ys.length := by rw [← h1.length]; exact hk
        have := ((h2 k ys[k] (by simp [hky])).2 vs[k] (by simp [hk])).2
        rw [gt_eq, List.getElem?_eq_getElem hk]
        simpa [hky] using this
      · rw [gt_eq, List.getElem?_eq_none (by omega)]; exact Cap.of_noOwn trivial

theorem argsE_enc : ∀ {vs us : List PV} {xs : List Value}, PEncL o w sig vs xs → argsE vs = some us → PEncL o w sig us xs ∧ us.length = vs.length ∧ ∀ j, (∀ k, (cmpV (gt .undef us j) k).noOwn) := by
  intro vs
  induction vs with
  | nil =>
    intro us xs h g
    simp [argsE] at g; subst g
    cases h
    exact ⟨.nil, rfl, fun j k => by simp only [gt, cmpV]; split <;> trivial⟩
  | cons v vs ih =>
    intro us xs h g
    cases h with | cons hh t =>
    simp only [argsE] at g
    cases hb : isTup v with
    | true => rw [hb] at g; simp at g
    | false =>
    rw [hb] at g
    simp only [cond_false] at g
    split at g
    · rename_i us' hus
      simp at g; subst g
      obtain ⟨h1, h2, h3⟩ := ih t hus
      refine ⟨.cons hh.plain h1, by simp [h2], fun j k => ?_⟩
      cases j with
      | zero => exact plain_cmp (PV.plain_noOwn v) (plain_tup fun us e => by rw [e] at hb; simp [isTup] at hb) k
      | succ j => exact h3 j k
    · simp at g

/-! out of a call -/

def backR (ψ : Pl → Pl) (o o' : Own) : Own := fun b =>
  match o b with
  | some (lo, .slot j k) => some (lo, .slot j k)
  | _ => rel ψ o' b

theorem leave {ψ : Pl → Pl} (h0 : ψ .ext = .ext) (h1 : ∀ i, ψ (.obj i) = .obj i) (h2 : ∀ i off, ψ (.cell i off) = .cell i off) {o' : Own} {w' : World} {sig' : List Nat} {H' : List PObj}
    (hg : Gl W0 o w) (g' : Gl W0 o' w') (hst' : Step (rel inw o) w o' w') (rh' : RelH o' sig' H' w') :
    Gl W0 (backR ψ o o') w' ∧ RelH (backR ψ o o') sig' H' w' ∧ Step o w (backR ψ o o') w' ∧ (∀ b off x, Stab o' w' b off x → Stab (backR ψ o o') w' b off x) ∧ ∀ p v x, p ≠ .ext → Cap o' w' p v x → Cap (backR ψ o o') w' (ψ p) v x := by
  let oi : Own := rel inw o
  let o2 : Own := backR ψ o o'
  have slotted : ∀ b lo j k, o b = some (lo, .slot j k) → w'.heap[b]? = w.heap[b]? ∧ o' b = some (lo, .ext) := by
    intro b lo j k hb
    have hbs := hg.fin b (by rw [hb]; simp)
    have hoi : oi b = some (lo, .ext) := rel_some hb
    obtain ⟨e1, e2⟩ := hst'.prot b hbs (by show Prot (oi b); rw [hoi]; trivial)
    exact ⟨e1, by rw [e2]; exact hoi⟩
  have o2_other : ∀ b lo p, o' b = some (lo, p) → p ≠ .ext → o2 b = some (lo, ψ p) := by
    intro b lo p hb hp
    show backR ψ o o' b = _
    unfold backR
    split
    · rename_i lo' j k hob
      rw [(slotted b lo' j k hob).2] at hb
      simp at hb; exact absurd hb.2.symm hp
    · exact rel_some hb
  have hst2' : ∀ b off x, Stab o' w' b off x → Stab o2 w' b off x := by
    intro b off x hx
    refine ⟨hx.1, fun lo p hlo => ?_⟩
    have hlo : backR ψ o o' b = some (lo, p) := hlo
    unfold backR at hlo
    split at hlo
    · rename_i lo' j k hob
      simp at hlo
      exact hlo.1 ▸ hx.2 _ _ (slotted b lo' j k hob).2
    · unfold rel at hlo
      cases hb : o' b with
      | none => simp [hb] at hlo
      | some q => simp [hb] at hlo; exact hlo.1 ▸ hx.2 q.1 q.2 (by rw [hb])
  have hsti : ∀ b off x, Stab o w b off x → Stab oi w b off x := fun _ _ _ h => rel_stab h
  have hstep : Step o w o2 w' := by
    refine ⟨hst'.os, hst'.tape, hst'.output, hst'.size, fun b hb hp => ?_, fun b off x hx => ?_⟩
    · have hoi : oi b = o b := by
        show rel inw o b = o b
        unfold rel
        cases hob : o b with
        | none => rfl
        | some q =>
          obtain ⟨lo, p⟩ := q
          rw [hob] at hp
          cases p <;> simp [Prot] at hp
          rfl
      obtain ⟨e1, e2⟩ := hst'.prot b hb (by show Prot (oi b); rw [hoi]; exact hp)
      refine ⟨e1, ?_⟩
      show backR ψ o o' b = o b
      unfold backR
      split
      · rename_i lo' j k hob; rw [hob]
      · have e2 : o' b = o b := by rw [e2]; exact hoi
        unfold rel
        rw [e2]
        cases hob : o b with
        | none => rfl
        | some q =>
          obtain ⟨lo, p⟩ := q
          rw [hob] at hp
          cases p <;> simp [Prot] at hp
          simp [h0]
    · exact hst2' _ _ _ (hst'.stab _ _ _ (hsti _ _ _ hx))
  have hg2 : Gl W0 o2 w' := by
    refine ⟨g'.size, fun b hb => ⟨(g'.keep b hb).1, ?_⟩, fun b hb => ?_⟩
    · show backR ψ o o' b = none
      unfold backR
      rw [(hg.keep b hb).2]
      simp [rel, (g'.keep b hb).2]
    · by_cases hob : o b = none
      · refine g'.fin b fun e => hb ?_
        show backR ψ o o' b = none
        unfold backR; rw [hob]; simp [rel, e]
      · exact Nat.lt_of_lt_of_le (hg.fin b hob) hst'.size
  have cap2 : ∀ p (v : PV) (x : Value), p ≠ .ext → Cap o' w' p v x → Cap o2 w' (ψ p) v x := fun p v x hp hcap => hcap.mapBlock fun b lo hb => ⟨rfl, o2_other b lo p hb hp⟩
  refine ⟨hg2, ⟨rh'.sigl, fun id ob hid => ?_⟩, hstep, hst2', cap2⟩
  obtain ⟨b, k1, k2, k3⟩ := rh'.obj id ob hid
  refine ⟨b, k1, by rw [show backR ψ o o' b = _ from o2_other b 0 _ k2 (by simp), h1], ?_⟩
  cases ob with
  | cells vs =>
    obtain ⟨arr, T, h4, h5, h6⟩ := k3
    refine ⟨arr, T, h4, h5, fun off hoff => ⟨(h6 off hoff).1.mono hst2' fun _ _ h => h, ?_, (h6 off hoff).2.2⟩⟩
    have := cap2 (.cell id off) _ _ (by simp) (h6 off hoff).2.1
    rwa [h2] at this
  | iter s pos => exact k3

/-- the state in which a call begins -/
theorem enter_rel {fn : Func} {args us : List PV} {H : List PObj} {xs : List Value} (hg : Gl W0 o w) (hh : RelH o sig H w) (hx : PEncL o w sig args xs) (hus : argsE args = some us) :
    Rel W0 (rel inw o) sig ⟨us ++ rep (fn.ntmps - args.length) .undef, H⟩ (xs.toArray ++ Array.replicate (fn.ntmps - xs.toArray.size) undef) w := by
  obtain ⟨h1, h2, h3⟩ := argsE_enc hx hus
  have hst : ∀ b off x, Stab o w b off x → Stab (rel inw o) w b off x := fun _ _ _ h => rel_stab h
  have hx' : PEncL (rel inw o) w sig us xs := h1.mono hst fun _ _ h => h
  have hxl : xs.length = us.length := hx'.length.symm
  have hall : PEncL (rel inw o) w sig (us ++ rep (fn.ntmps - args.length) .undef) (xs ++ List.replicate (fn.ntmps - args.length) undef) := by
    refine hx'.append ?_
    rw [rep_eq]
    generalize fn.ntmps - args.length = m
    induction m with
    | zero => exact .nil
    | succ m ih => exact .cons .undef ih
  have htm : (xs.toArray ++ Array.replicate (fn.ntmps - xs.toArray.size) undef) = (xs ++ List.replicate (fn.ntmps - args.length) undef).toArray := by
    apply Array.ext'
    simp [hxl, h2]
  rw [htm]
  refine ⟨hg.relabel inw, by have := hall.length; simp at this ⊢; omega, fun j => ?_, fun j k => ?_, hh.relabel inw (fun _ => rfl) fun _ _ _ _ _ _ => rfl⟩
  · have := hall.get j; simpa using this
  · refine Cap.of_noOwn ?_
    by_cases hj : j < us.length
    · have := h3 j k
      rw [gt_eq] at this
      rw [gt_eq, List.getElem?_append_left hj]
      exact this
    · have : gt PV.undef (us ++ rep (fn.ntmps - args.length) .undef) j = .undef := by
        rw [gt_eq, List.getElem?_append_right (by omega), rep_eq]
        cases hh : (List.replicate (fn.ntmps - args.length) PV.undef)[j - us.length]? with
        | none => rfl
        | some x => have := List.mem_of_getElem? hh; rw [List.mem_replicate] at this; rw [this.2]; rfl
      show (cmpV (gt PV.undef (us ++ rep (fn.ntmps - args.length) .undef) j) k).noOwn
      rw [this]; unfold cmpV; dsimp only; split <;> trivial

/-- an end by a return -/
theorem ret_post (hC : TyOk P C) {fn : Func} (hnd : nodupN (tmpsOf fn.results.toList) = true) {H H' : List PObj} {out : Out} {o' : Own} {sig' : List Nat} {st' : St} {a' : Act} {w' : World}
    (hg : Gl W0 o w) (hl : sig.length = H.length) (hr : Rel W0 o' sig' st' a'.tmps w') (hst : Step (rel inw o) w o' w') (hse : SigExt sig sig') (h : retK C H.length fn.results.toList st' = some (out, H')) :
    ∃ y, (results fn a'.tmps).run P w' = .ok y w' ∧ Post W0 o sig w out H' (.returned y) w' := by
  unfold retK at h
  split at h
  rotate_left
  · simp at h
  rename_i vs hvs
  obtain ⟨y, e1, e2, e3, e4⟩ := resVs_sound hC hr hnd hvs
  have fin : ∀ sig2 H2, RelH o' sig2 H2 w' → SigExt sig sig2 → PEnc o' w' sig2 (single vs) y → Post W0 o sig w (.ret (single vs)) H2 (.returned y) w' := by
    intro sig2 H2 hrh hse2 hv
    obtain ⟨l1, l2, l3, l4, l5⟩ := leave (ψ := outR fn.results.toList) rfl (fun _ => rfl) (fun _ _ => rfl) hg hr.gl hst hrh
    refine ⟨_, _, l1, l2, l3, hse2, hv.mono l4 fun _ _ h => h, fun k => ?_⟩
    refine (e4 k).mapBlock fun b lo hb => ⟨rfl, ?_⟩
    show backR _ o o' b = _
    unfold backR
    split
    · rename_i lo' j k' hob
      have hoi : rel inw o b = some (lo', .ext) := rel_some hob
      obtain ⟨_, f2⟩ := hst.prot b (hg.fin b (by rw [hob]; simp)) (by rw [hoi]; trivial)
      rw [hoi] at f2
      rw [rel_some f2] at hb
      simp [outR] at hb
    · exact hb
  cases hb : belowsAll H.length vs && belowH H.length (tk st'.heap H.length) with
  | true =>
    rw [hb] at h
    simp only [cond_true, Option.some.injEq, Prod.mk.injEq] at h
    obtain ⟨rfl, rfl⟩ := h
    simp only [Bool.and_eq_true, tk_eq] at hb
    rw [tk_eq]
    refine ⟨y, e1, fin (sig'.take H.length) _ (hr.hp.take _ hb.2) ?_ (e3 _ hb.1)⟩
    rw [← hl]; exact hse.take
  | false =>
    rw [hb] at h
    simp only [cond_false, Option.some.injEq, Prod.mk.injEq] at h
    obtain ⟨rfl, rfl⟩ := h
    exact ⟨y, e1, fin sig' _ hr.hp hse e2⟩

/-- an end by a panic -/
theorem pan_post {H H' : List PObj} {out : Out} {o' : Own} {sig' : List Nat} {h' : List PObj} {w' : World} {v : DV} {x : Value}
    (hg : Gl W0 o w) (hl : sig.length = H.length) (hg' : Gl W0 o' w') (hrh : RelH o' sig' h' w') (hv : Enc o' w' v x) (hst : Step (rel inw o) w o' w') (hse : SigExt sig sig') (h : panK H.length v h' = some (out, H')) :
    Post W0 o sig w out H' (.panicked [{ v := x, recovered := false }]) w' := by
  have fin : ∀ sig2 H2, RelH o' sig2 H2 w' → SigExt sig sig2 → Post W0 o sig w (.pan v) H2 (.panicked [{ v := x, recovered := false }]) w' := by
    intro sig2 H2 hrh2 hse2
    obtain ⟨l1, l2, l3, l4, l5⟩ := leave (ψ := outR []) rfl (fun _ => rfl) (fun _ _ => rfl) hg hg' hst hrh2
    exact ⟨_, _, l1, l2, l3, hse2, x, hv.mono l4, rfl⟩
  unfold panK at h
  cases hb : belowH H.length (tk h' H.length) with
  | true =>
    rw [hb] at h
    simp only [cond_true, Option.some.injEq, Prod.mk.injEq] at h
    obtain ⟨rfl, rfl⟩ := h
    rw [tk_eq] at hb
    rw [tk_eq]
    refine fin (sig'.take H.length) _ (hrh.take _ hb) ?_
    rw [← hl]; exact hse.take
  | false =>
    rw [hb] at h
    simp only [cond_false, Option.some.injEq, Prod.mk.injEq] at h
    obtain ⟨rfl, rfl⟩ := h
    exact fin sig' _ hrh hse

/-- a function's contract from its word's run: it may change what is there -/
theorem sound_of (hC : TyOk P C) (hE : EnvOk P W0 C) (hm : P.follows .mixedOrders = true) {f : FuncId} {fn : Func} (hf : P.funcs[f]? = some fn) {c : Code} (hb : fn.body = some c) (hn : (fn.name == "runtime.NumGoroutine") = false)
    (hnd : nodupN (tmpsOf fn.results.toList) = true) {L : Lps} (hL : LpsOk C L (loopsOf c)) {S : List PV → List PObj → Option (Out × List PObj)} (h : ∀ args H r, S args H = some r → runE C L fn.ntmps fn.results.toList c args H = some r) : Sound P W0 f S := by
  refine ⟨enters_of hf hb hn, ?_⟩
  intro args H out H' hs o sig w xs hg hh hx
  have h := h args H _ hs
  unfold runE at h
  split at h
  rotate_left
  · simp at h
  rename_i us hus
  refine calls_of_wp hf hb ?_
  refine pcodeK_sound (a := { tmps := (xs.toArray ++ Array.replicate (fn.ntmps - xs.toArray.size) undef), defers := [] }) hC hE hm c hL (enter_rel hg hh hx hus) rfl ?_ h
  intro e st' o' sig' a' w' ex k1 k2 k3 k4 k5
  cases ex with
  | normal =>
    obtain ⟨rfl, k2⟩ := k2
    obtain ⟨y, e1, e2⟩ := ret_post hC hnd hg hh.sigl k2 k3 k4 k1
    exact ⟨k5, y, e1, e2⟩
  | ret =>
    obtain ⟨rfl, k2⟩ := k2
    obtain ⟨y, e1, e2⟩ := ret_post hC hnd hg hh.sigl k2 k3 k4 k1
    exact ⟨k5, y, e1, e2⟩
  | exit id => obtain ⟨rfl, k2⟩ := k2; simp at k1
  | panic ch =>
    obtain ⟨v, x, rfl, k2, k6, k7, rfl⟩ := k2
    exact ⟨k5, pan_post hg hh.sigl k7 k6 k2 k3 k4 k1⟩
  | goto l => exact k2.elim
  | outgrown => exact k2.elim

end
end Go.PS
end

section
namespace Go.PS
open Go.RowKit

def sz0 (P : Program) (t : TypeId) : Nat := match P.info? t with | some i => i.size | none => 0

def arrOk (P : Program) (n0 : Nat) (e : TypeId) : Bool :=
  match P.underlying e with
  | some (.array _ _) => false
  | some _ => !Nat.beq (sz0 P e) 0 && Nat.ble (e + 1) n0
  | none => false

def sizeOfD (P : Program) (n0 : Nat) (t : TypeId) : TypeDesc → Nat
  | .array _ e => bif arrOk P n0 e then sz0 P t else 0
  | _ => sz0 P t

def tySize (P : Program) (n0 : Nat) (t : TypeId) : Nat :=
  match P.underlying t with
  | some d => sizeOfD P n0 t d
  | none => 0

def fieldsOf (fs : Array Field) : List (Nat × TypeId) := fs.toList.map fun f => (f.offset, f.type)

def tyOfD (P : Program) (n0 : Nat) : TypeDesc → Ty
  | .int k => .int k
  | .bool => .bool
  | .string => .str
  | .slice e => bif !Nat.beq (tySize P n0 e) 0 && Nat.ble (e + 1) n0 then .slice e else .other
  | .struct fs => .struct (fieldsOf fs)
  | .array n e => bif arrOk P n0 e then .array n e else .other
  | .pointer e => .ptr e
  | .interface _ => .iface
  | .func _ _ _ => .func
  | _ => .other

def tyD (P : Program) (n0 : Nat) (t : TypeId) : Ty :=
  match P.underlying t with
  | some d => tyOfD P n0 d
  | none => .other

def matchZ : DV → Value → Bool
  | .int k n, .int k' n' => k == k' && decide (n = n')
  | .bool b, .bool b' => b == b'
  | .str [], .string s => Nat.beq s.data.toList.length 0
  | .nils _, .slice none 0 0 => true
  | .nilp, .pointer none => true
  | .nilf, .nilFunc => true
  | .nili, .nilIface => true
  | _, _ => false

def matchZs : List DV → List Value → Bool
  | [], [] => true
  | v :: vs, x :: xs => matchZ v x && matchZs vs xs
  | _, _ => false

/-- the cells of a type's zero -/
def zeroL (P : Program) (n0 : Nat) : Nat → TypeId → Option (List DV)
  | 0, _ => none
  | d + 1, t => match tyD P n0 t with
    | .int k => some [.int k 0]
    | .bool => some [.bool false]
    | .str => some [.str []]
    | .slice e => some [.nils (tySize P n0 e)]
    | .ptr _ => some [.nilp]
    | .func => some [.nilf]
    | .iface => some [.nili]
    | .struct fs => fs.foldl (fun acc f => match acc, zeroL P n0 d f.2 with | some l, some r => some (l ++ r) | _, _ => none) (some [])
    | .array n e => match zeroL P n0 d e with | some r => some (List.replicate n r).flatten | none => none
    | .other => none

def placesB (P : Program) (n0 : Nat) : List (Nat × TypeId) → Bool
  | [] => true
  | p :: l => (match P.info? p.2 with | some i => Nat.beq i.size (tySize P n0 p.2) && Nat.ble (p.2 + 1) n0 | none => false) && placesB P n0 l

def tyZero (P : Program) (n0 : Nat) (t : TypeId) : List DV :=
  match P.info? t, zeroL P n0 20 t with
  | some i, some l => match i.zero with
    | some z => match (tyD P n0 t) with
      | .struct fs => (match z with
        | .agg cs => bif matchZs l cs.toList && Nat.beq l.length (tySize P n0 t) && placesB P n0 fs && Nat.beq i.size (tySize P n0 t) then l else []
        | _ => [])
      | .array _ _ => (match z with
        | .agg cs => bif matchZs l cs.toList && Nat.beq l.length (tySize P n0 t) && Nat.beq i.size (tySize P n0 t) then l else []
        | _ => [])
      | _ => (match l with
        | [v] => bif matchZ v z && Nat.beq (tySize P n0 t) 1 && Nat.beq i.size 1 then [v] else []
        | _ => [])
    | none => []
  | _, _ => []

def tyBytes (P : Program) (t : TypeId) : Nat := match P.info? t with | some i => i.bytes | none => 0

def tyI (P : Program) (n0 : Nat) (t : TypeId) : TyI := ⟨tyD P n0 t, tySize P n0 t, tyBytes P t, tyZero P n0 t⟩

def tyTab (P : Program) (n0 : Nat) : Nat → Nat → List TyI
  | 0, _ => []
  | n + 1, t => tyI P n0 t :: tyTab P n0 n (t + 1)

theorem tyTab_get (P : Program) (n0 : Nat) : ∀ n s i, (tyTab P n0 n s)[i]? = if i < n then some (tyI P n0 (s + i)) else none := by
  intro n
  induction n with
  | zero => intro s i; simp [tyTab]
  | succ n ih =>
    intro s i
    cases i with
    | zero => simp [tyTab]
    | succ i =>
      simp only [tyTab, List.getElem?_cons_succ, ih, Nat.add_lt_add_iff_right]
      rw [show s + 1 + i = s + (i + 1) by omega]

variable {P : Program} {n0 : Nat}

theorem matchZ_enc {v : DV} {x : Value} (h : matchZ v x = true) (o : Own) (w : World) : Enc o w v x ∧ v.scalar = true ∧ ∀ cs, x ≠ .agg cs := by
  unfold matchZ at h
  split at h
  · simp at h
    obtain ⟨rfl, rfl⟩ := h
    exact ⟨.int _ _, rfl, by simp⟩
  · simp at h; subst h; exact ⟨.bool _, rfl, by simp⟩
  · rename_i s
    have : s = ⟨(List.toArray [])⟩ := by
      have := Nat.eq_of_beq_eq_true h
      obtain ⟨⟨l⟩⟩ := s
      simp at this; subst this; rfl
    rw [this]
    exact ⟨.str [] (by simp), rfl, by simp⟩
  · exact ⟨.nils _, rfl, by simp⟩
  · exact ⟨.nilp, rfl, by simp⟩
  · exact ⟨.nilf, rfl, by simp⟩
  · exact ⟨.nili, rfl, by simp⟩
  · simp at h

theorem matchZs_enc : ∀ {vs : List DV} {xs : List Value}, matchZs vs xs = true → ∀ (o : Own) (w : World), EncL o w vs xs ∧ ∀ v ∈ vs, v.scalar = true := by
  intro vs
  induction vs with
  | nil => intro xs h o w; cases xs with | nil => exact ⟨.nil, by simp⟩ | cons x xs => simp [matchZs] at h
  | cons v vs ih =>
    intro xs h o w
    cases xs with
    | nil => simp [matchZs] at h
    | cons x xs =>
      simp only [matchZs, Bool.and_eq_true] at h
      obtain ⟨h1, h2⟩ := ih h.2 o w
      obtain ⟨h3, h4, _⟩ := matchZ_enc h.1 o w
      exact ⟨.cons h3 h1, by simpa using ⟨h4, h2⟩⟩

theorem underlying_info {t : TypeId} {d : TypeDesc} (h : P.underlying t = some d) : ∃ i, P.info? t = some i := by
  unfold Program.underlying at h
  cases hi : P.info? t with
  | none => rw [hi] at h; simp at h
  | some i => exact ⟨i, rfl⟩

theorem nbeq0 {n : Nat} : Nat.beq n 0 = false ↔ n ≠ 0 := by
  constructor
  · rintro h rfl; simp at h
  · intro h
    cases hb : Nat.beq n 0
    · rfl
    · exact absurd (Nat.eq_of_beq_eq_true hb) h

theorem arrOk_size {e : TypeId} (h : arrOk P n0 e = true) : tySize P n0 e ≠ 0 ∧ e < n0 := by
  unfold arrOk at h
  unfold tySize
  cases hu : P.underlying e with
  | none => rw [hu] at h; simp at h
  | some d =>
    rw [hu] at h
    have fin : (!Nat.beq (sz0 P e) 0 && Nat.ble (e + 1) n0) = true → sz0 P e ≠ 0 ∧ e < n0 := by
      intro h
      simp only [Bool.and_eq_true, Bool.not_eq_true'] at h
      exact ⟨nbeq0.1 h.1, Nat.le_of_ble_eq_true h.2⟩
    cases d <;> simp only [sizeOfD] at h ⊢ <;> first | exact fin h | cases h

theorem tySize_info {t : TypeId} (h : tySize P n0 t ≠ 0) : ∃ i, P.info? t = some i ∧ i.size = tySize P n0 t ∧ ∃ d, P.underlying t = some d ∧ tySize P n0 t = sizeOfD P n0 t d := by
  cases hu : P.underlying t with
  | none => unfold tySize at h; rw [hu] at h; simp at h
  | some d =>
    obtain ⟨i, hi⟩ := underlying_info hu
    have he : tySize P n0 t = sizeOfD P n0 t d := by unfold tySize; rw [hu]
    refine ⟨i, hi, ?_, d, rfl, he⟩
    have hs : sz0 P t = i.size := by unfold sz0; rw [hi]
    rw [he] at h ⊢
    cases d <;> simp only [sizeOfD] at h ⊢ <;> try exact hs.symm
    rename_i n e
    cases ha : arrOk P n0 e
    · rw [ha] at h; simp at h
    · exact hs.symm

theorem tyD_some {t : TypeId} {d : TypeDesc} (h : P.underlying t = some d) : tyD P n0 t = tyOfD P n0 d := by unfold tyD; rw [h]

theorem tyD_inv (t : TypeId) : match tyD P n0 t with
    | .int k => P.underlying t = some (.int k)
    | .bool => P.underlying t = some .bool
    | .str => P.underlying t = some .string
    | .slice e => P.underlying t = some (.slice e) ∧ tySize P n0 e ≠ 0 ∧ e < n0
    | .struct fs => ∃ F, P.underlying t = some (.struct F) ∧ fieldsOf F = fs
    | .array n e => P.underlying t = some (.array n e) ∧ tySize P n0 e ≠ 0 ∧ e < n0
    | .ptr e => P.underlying t = some (.pointer e)
    | .iface => ∃ ms, P.underlying t = some (.interface ms)
    | .func => ∃ a b c, P.underlying t = some (.func a b c)
    | .other => True := by
  cases hu : P.underlying t with
  | none =>
    have : tyD P n0 t = .other := by unfold tyD; rw [hu]
    rw [this]; trivial
  | some d =>
    rw [tyD_some hu]
    cases d <;> simp only [tyOfD] <;> try trivial
    · rename_i e
      cases hb : (!Nat.beq (tySize P n0 e) 0 && Nat.ble (e + 1) n0)
      · trivial
      · simp only [Bool.and_eq_true, Bool.not_eq_true'] at hb
        exact ⟨rfl, nbeq0.1 hb.1, Nat.le_of_ble_eq_true hb.2⟩
    · rename_i n e
      cases hb : arrOk P n0 e
      · trivial
      · exact ⟨rfl, arrOk_size hb⟩
    · exact ⟨_, rfl, rfl⟩
    · exact ⟨_, _, _, rfl⟩
    · exact ⟨_, rfl⟩

theorem tyD_agg (t : TypeId) (w : World) (h : tySize P n0 t ≠ 0) : (isAgg t).run P w = .ok (!isScalar (tyD P n0 t)) w := by
  obtain ⟨i, _, _, d, hd, he⟩ := tySize_info h
  rw [tyD_some hd]
  have hs : (isAgg t).run P w = .ok (match d with | .struct _ | .array _ _ => true | _ => false) w := by
    simp only [isAgg, Sem.run_bind, run_underlying hd, Result.andThen_ok]
    cases d <;> simp
  rw [hs]
  congr 1
  rw [he] at h
  cases d <;> simp only [tyOfD, sizeOfD] at h ⊢ <;> try rfl
  · rename_i e; cases (!Nat.beq (tySize P n0 e) 0 && Nat.ble (e + 1) n0) <;> rfl
  · rename_i n e
    cases ha : arrOk P n0 e
    · rw [ha] at h; simp at h
    · rfl

theorem placesB_spec : ∀ {l : List (Nat × TypeId)}, placesB P n0 l = true → ∀ p ∈ l, ∃ i, P.info? p.2 = some i ∧ i.size = tySize P n0 p.2 ∧ p.2 < n0 := by
  intro l
  induction l with
  | nil => intro _ p hp; simp at hp
  | cons q l ih =>
    intro h p hp
    simp only [placesB, Bool.and_eq_true] at h
    rcases List.mem_cons.1 hp with rfl | hp
    · obtain ⟨h1, _⟩ := h
      split at h1
      · rename_i i hi; simp only [Bool.and_eq_true] at h1; exact ⟨i, hi, Nat.eq_of_beq_eq_true h1.1, Nat.le_of_ble_eq_true h1.2⟩
      · simp at h1
    · exact ih h.2 p hp

theorem tyZero_spec {t : TypeId} (h : tyZero P n0 t ≠ []) : ∃ i z, P.info? t = some i ∧ i.zero = some z ∧ i.size = tySize P n0 t ∧ (tyZero P n0 t).length = tySize P n0 t ∧
    (match tyD P n0 t with
    | .struct fs => ∃ cs, z = .agg cs ∧ matchZs (tyZero P n0 t) cs.toList = true ∧ placesB P n0 fs = true
    | .array _ _ => ∃ cs, z = .agg cs ∧ matchZs (tyZero P n0 t) cs.toList = true
    | _ => ∃ v, tyZero P n0 t = [v] ∧ matchZ v z = true) := by
  generalize hz : tyZero P n0 t = Z at h ⊢
  unfold tyZero at hz
  split at hz
  · rename_i i l hi hl
    split at hz
    · rename_i z hzz
      refine ⟨i, z, hi, hzz, ?_⟩
      split at hz
      · rename_i fs hfs
        split at hz
        · rename_i cs
          cases hb : (matchZs l cs.toList && Nat.beq l.length (tySize P n0 t) && placesB P n0 fs && Nat.beq i.size (tySize P n0 t))
          · rw [hb] at hz; exact absurd hz.symm h
          · rw [hb] at hz
            have hz : l = Z := hz
            subst hz
            simp only [Bool.and_eq_true] at hb
            exact ⟨Nat.eq_of_beq_eq_true hb.2, Nat.eq_of_beq_eq_true hb.1.1.2, cs, rfl, hb.1.1.1, hb.1.2⟩
        · exact absurd hz.symm h
      · rename_i n e hfs
        split at hz
        · rename_i cs
          cases hb : (matchZs l cs.toList && Nat.beq l.length (tySize P n0 t) && Nat.beq i.size (tySize P n0 t))
          · rw [hb] at hz; exact absurd hz.symm h
          · rw [hb] at hz
            have hz : l = Z := hz
            subst hz
            simp only [Bool.and_eq_true] at hb
            exact ⟨Nat.eq_of_beq_eq_true hb.2, Nat.eq_of_beq_eq_true hb.1.2, cs, rfl, hb.1.1⟩
        · exact absurd hz.symm h
      · rename_i h1 h2
        split at hz
        · rename_i v
          cases hb : (matchZ v z && Nat.beq (tySize P n0 t) 1 && Nat.beq i.size 1)
          · rw [hb] at hz; exact absurd hz.symm h
          · rw [hb] at hz
            have hz : [v] = Z := hz
            subst hz
            simp only [Bool.and_eq_true] at hb
            have e1 := Nat.eq_of_beq_eq_true hb.1.2
            have e2 := Nat.eq_of_beq_eq_true hb.2
            exact ⟨by rw [e1, e2], by rw [e1]; rfl, v, rfl, hb.1.1⟩
        · exact absurd hz.symm h
    · exact absurd hz.symm h
  · exact absurd hz.symm h

def EqOk (P : Program) (z : List DV) (t : TypeId) : Prop := P.eqGuardType P.depth t = false ∧ ∀ (a b : List DV) (r : Bool) (xs ys : List Value) (o : Own) (w : World), kindsB z a = true → eqCells a b = some r → EncL o w a xs → EncL o w b ys →
    (Op.equalIn 10000 t (.agg xs.toArray) (.agg ys.toArray)).run P w = .ok r w

theorem zeroDV_tyI (t : TypeId) (h : tyZero P n0 t ≠ []) : ∃ i z, P.info? t = some i ∧ i.zero = some z ∧ i.size = tySize P n0 t ∧ (tyZero P n0 t).length = tySize P n0 t ∧ (∀ o w, Enc o w (zeroDV (tyI P n0 t)) z) ∧ (zeroDV (tyI P n0 t)).cells = tyZero P n0 t := by
  obtain ⟨i, z, h1, h2, h3, h4, h5⟩ := tyZero_spec h
  refine ⟨i, z, h1, h2, h3, h4, ?_⟩
  have key : (isScalar (tyD P n0 t) = false ∧ ∃ cs, z = .agg cs ∧ matchZs (tyZero P n0 t) cs.toList = true) ∨ (isScalar (tyD P n0 t) = true ∧ ∃ v, tyZero P n0 t = [v] ∧ matchZ v z = true) := by
    split at h5
    · rename_i fs hfs
      obtain ⟨cs, e1, e2, _⟩ := h5
      exact .inl ⟨by rw [hfs]; rfl, cs, e1, e2⟩
    · rename_i n e hfs
      obtain ⟨cs, e1, e2⟩ := h5
      exact .inl ⟨by rw [hfs]; rfl, cs, e1, e2⟩
    · rename_i h6 h7
      obtain ⟨v, e1, e2⟩ := h5
      refine .inr ⟨?_, v, e1, e2⟩
      cases hd : tyD P n0 t <;> first | rfl | (exfalso; rename_i fs; exact h6 fs hd) | (exfalso; rename_i n e; exact h7 n e hd)
  rcases key with ⟨hs, cs, rfl, hm⟩ | ⟨hs, v, hv, hm⟩
  · have : zeroDV (tyI P n0 t) = .agg (tyZero P n0 t) := by simp [zeroDV, tyI, hs]
    rw [this]
    refine ⟨fun o w => ?_, rfl⟩
    obtain ⟨e1, e2⟩ := matchZs_enc hm o w
    have := Enc.agg _ _ e1 e2
    simpa using this
  · have : zeroDV (tyI P n0 t) = v := by simp [zeroDV, tyI, hs, hv]
    rw [this, hv]
    refine ⟨fun o w => (matchZ_enc hm o w).1, ?_⟩
    have := (matchZ_enc hm (fun _ => none) default).2.1
    cases v <;> first | rfl | simp [DV.scalar] at this

/-- the facts that the operations need of a program's types -/
theorem tyOk_of {C : Ctx} {n : Nat} (htys : C.tys = tyTab P n n 0) (heq : ∀ t, memN t C.eqs = true → EqOk P (C.ty t).zero t) : TyOk P C := by
  have hty : ∀ t, C.ty t = if t < n then tyI P n t else ⟨.other, 0, 0, []⟩ := by
    intro t
    unfold Ctx.ty
    rw [gt_eq, htys, tyTab_get]
    split <;> simp
  have low : ∀ t, (C.ty t).ty ≠ .other ∨ (C.ty t).size ≠ 0 ∨ (C.ty t).zero ≠ [] → C.ty t = tyI P n t := by
    intro t h
    rw [hty] at h ⊢
    by_cases ht : t < n
    · rw [if_pos ht]
    · rw [if_neg ht] at h; simp at h
  have inv : ∀ t x, (C.ty t).ty = x → x ≠ .other → tyD P n t = x := by
    intro t x h hx
    have := low t (.inl (by rw [h]; exact hx))
    rw [this] at h; exact h
  have size_eq : ∀ e, e < n → (C.ty e).size = tySize P n e := by
    intro e h
    rw [hty, if_pos h]; rfl
  have sz : ∀ t, (C.ty t).size ≠ 0 → C.ty t = tyI P n t ∧ tySize P n t ≠ 0 := by
    intro t h
    have := low t (.inr (.inl h))
    rw [this] at h
    exact ⟨this, h⟩
  have zr : ∀ t, (C.ty t).zero ≠ [] → C.ty t = tyI P n t ∧ tyZero P n t ≠ [] := by
    intro t h
    have := low t (.inr (.inr h))
    rw [this] at h
    exact ⟨this, h⟩
  refine ⟨?_, ?_, ?_, ?_, ?_, ?_, ?_, ?_, ?_, ?_, ?_, ?_, ?_, ?_, ?_, ?_, ?_⟩
  · intro t k h
    have := tyD_inv (P := P) (n0 := n) t; rw [inv t _ h (by simp)] at this; exact this
  · intro t h
    have := tyD_inv (P := P) (n0 := n) t; rw [inv t _ h (by simp)] at this; exact this
  · intro t h
    have := tyD_inv (P := P) (n0 := n) t; rw [inv t _ h (by simp)] at this; exact this
  · intro t e h
    have := tyD_inv (P := P) (n0 := n) t; rw [inv t _ h (by simp)] at this; exact ⟨this.1, by rw [size_eq e this.2.2]; exact this.2.1⟩
  · intro t fs h
    have := tyD_inv (P := P) (n0 := n) t; rw [inv t _ h (by simp)] at this; exact this
  · intro t m e h
    have := tyD_inv (P := P) (n0 := n) t; rw [inv t _ h (by simp)] at this; exact ⟨this.1, by rw [size_eq e this.2.2]; exact this.2.1⟩
  · intro t e h
    have := tyD_inv (P := P) (n0 := n) t; rw [inv t _ h (by simp)] at this; exact this
  · intro t h
    have := tyD_inv (P := P) (n0 := n) t; rw [inv t _ h (by simp)] at this; exact this
  · intro t h
    have := tyD_inv (P := P) (n0 := n) t; rw [inv t _ h (by simp)] at this; exact this
  · intro t h
    obtain ⟨h1, h2⟩ := sz t h
    obtain ⟨i, e1, e2, _⟩ := tySize_info h2
    rw [h1]
    exact ⟨i, e1, e2, by simp [tyI, tyBytes, e1]⟩
  · intro t w h
    obtain ⟨h1, h2⟩ := sz t h
    rw [h1]; exact tyD_agg t w h2
  · intro t h
    obtain ⟨h1, h2⟩ := zr t h
    obtain ⟨i, z, e1, e2, e3, _, e5, _⟩ := zeroDV_tyI t h2
    rw [h1]
    exact ⟨i, z, e1, e2, e3, e5⟩
  · exact heq
  · intro t fs h hz
    obtain ⟨h1, h2⟩ := zr t hz
    obtain ⟨i, z, _, _, _, _, h5⟩ := tyZero_spec h2
    rw [inv t _ h (by simp)] at h5
    obtain ⟨cs, _, _, hp⟩ := h5
    have := tyD_inv (P := P) (n0 := n) t
    rw [inv t _ h (by simp)] at this
    obtain ⟨F, hF, rfl⟩ := this
    refine ⟨F, hF, ?_⟩
    have key : ∀ l : List Field, (∀ f ∈ l, ∃ i, P.info? f.type = some i ∧ i.size = tySize P n f.type ∧ f.type < n) →
        l.mapM (fun f => (P.info? f.type).map fun i => (f.offset, i.size)) = some ((l.map fun f => (f.offset, f.type)).map fun p => (p.1, (C.ty p.2).size)) := by
      intro l
      induction l with
      | nil => intro _; rfl
      | cons f l ih =>
        intro h
        obtain ⟨i, e1, e2, e3⟩ := h f (List.mem_cons_self ..)
        rw [List.mapM_cons, ih fun g hg => h g (List.mem_cons_of_mem _ hg)]
        simp [e1, e2, size_eq _ e3]
    refine key _ fun f hf => ?_
    obtain ⟨i, e⟩ := placesB_spec hp (f.offset, f.type) (List.mem_map.2 ⟨f, hf, rfl⟩)
    exact ⟨i, e⟩
  · intro t h1 h2
    have hD := inv t _ rfl h2
    have := tyD_inv (P := P) (n0 := n) t
    rw [hD] at this
    unfold Program.concrete
    revert this
    cases hd : (C.ty t).ty <;> intro this
    case iface => exact absurd hd h1
    case other => exact absurd hd h2
    case struct => obtain ⟨F, hF, _⟩ := this; rw [hF]
    case func => obtain ⟨a, b, c, hF⟩ := this; rw [hF]
    case slice => rw [this.1]
    case array => rw [this.1]
    all_goals rw [this]
  · intro t h
    obtain ⟨h1, h2⟩ := zr t h
    obtain ⟨i, z, _, _, _, e4, _, e6⟩ := zeroDV_tyI t h2
    rw [h1, e6]; exact e4
  · intro t h
    obtain ⟨h1, h2⟩ := zr t h
    obtain ⟨i, z, _, _, _, _, _, e6⟩ := zeroDV_tyI t h2
    rw [h1, e6]; rfl

end Go.PS
end

section
namespace Go.PS
open Go.RowKit

def eqKindsL (P : Program) (k : TypeId → Option (List DV)) : Nat → List Field → Option (List DV)
  | _, [] => some []
  | off, f :: l => bif f.name != "_" && Nat.beq f.offset off then (match k f.type with
    | some z => (match P.info? f.type with
      | some i => bif Nat.beq i.size z.length then (match eqKindsL P k (off + z.length) l with
        | some r => some (z ++ r)
        | none => none) else none
      | none => none)
    | none => none) else none

/-- the kinds of a type's cells: bools, integers, strings, structs of such -/
def eqKinds (P : Program) : Nat → TypeId → Option (List DV)
  | 0, _ => none
  | d + 1, t => match P.underlying t with
    | some .bool => some [.bool false]
    | some (.int k) => some [.int k 0]
    | some .string => some [.str []]
    | some (.struct fs) => bif !P.stoodInHeld t then eqKindsL P (eqKinds P d) 0 fs.toList else none
    | _ => none

section
variable {P : Program} {o : Own} {w : World}

theorem kindsB_append {z1 z2 a : List DV} (h : kindsB (z1 ++ z2) a = true) : ∃ a1 a2, a = a1 ++ a2 ∧ kindsB z1 a1 = true ∧ kindsB z2 a2 = true ∧ a1.length = z1.length := by
  induction z1 generalizing a with
  | nil => exact ⟨[], a, rfl, rfl, h, rfl⟩
  | cons z z1 ih =>
    cases a with
    | nil => cases z <;> simp [kindsB] at h
    | cons x a =>
      have key : kindsB (z1 ++ z2) a = true ∧ ∀ a1, kindsB z1 a1 = true → kindsB (z :: z1) (x :: a1) = true := by
        cases z <;> cases x <;> simp [kindsB] at h ⊢ <;> first | exact h | exact ⟨h.2, fun _ g => ⟨h.1, g⟩⟩
      obtain ⟨a1, a2, h1, h2, h3, h4⟩ := ih key.1
      exact ⟨x :: a1, a2, by simp [h1], key.2 _ h2, h3, by simp [h4]⟩

theorem eqCells_append {a1 a2 b : List DV} {r : Bool} (h : eqCells (a1 ++ a2) b = some r) : ∃ b1 b2 r1 r2, b = b1 ++ b2 ∧ eqCells a1 b1 = some r1 ∧ eqCells a2 b2 = some r2 ∧ r = (r1 && r2) := by
  induction a1 generalizing b r with
  | nil => exact ⟨[], b, true, r, rfl, rfl, h, by simp⟩
  | cons x a1 ih =>
    cases b with
    | nil => cases x <;> simp [eqCells] at h
    | cons y b =>
      have key : ∃ e r', eqCells (a1 ++ a2) b = some r' ∧ r = (e && r') ∧ ∀ b1 r1, eqCells a1 b1 = some r1 → eqCells (x :: a1) (y :: b1) = some (e && r1) := by
        cases x <;> cases y <;> simp only [List.cons_append, eqCells] at h
        case int.int k m k' m' =>
          by_cases hk : (k == k') = true
          · rw [hk] at h
            simp only [cond_true] at h
            split at h
            · rename_i t ht
              simp at h; subst h
              refine ⟨_, t, ht, rfl, fun b1 r1 h1 => ?_⟩
              simp only [eqCells, hk, cond_true, h1]
            · simp at h
          · simp only [Bool.not_eq_true] at hk
            rw [hk] at h; simp at h
        case str.str =>
          split at h
          · rename_i t ht
            simp at h; subst h
            exact ⟨_, t, ht, rfl, fun b1 r1 h1 => by simp only [eqCells, h1]⟩
          · simp at h
        case bool.bool =>
          split at h
          · rename_i t ht
            simp at h; subst h
            exact ⟨_, t, ht, rfl, fun b1 r1 h1 => by simp only [eqCells, h1]⟩
          · simp at h
        all_goals (simp at h)
      obtain ⟨e, r', h1, h2, h3⟩ := key
      obtain ⟨b1, b2, r1, r2, k1, k2, k3, k4⟩ := ih h1
      exact ⟨y :: b1, b2, e && r1, r2, by simp [k1], h3 _ _ k2, k3, by rw [h2, k4, Bool.and_assoc]⟩

theorem eqCells_length {a b : List DV} {r : Bool} (h : eqCells a b = some r) : a.length = b.length := by
  induction a generalizing b r with
  | nil => cases b <;> simp [eqCells] at h ⊢
  | cons x a ih =>
    cases b with
    | nil => cases x <;> simp [eqCells] at h
    | cons y b =>
      have : ∃ r', eqCells a b = some r' := by
        cases x <;> cases y <;> simp only [eqCells] at h
        case int.int k m k' m' =>
          cases hk : k == k' <;> rw [hk] at h
          · simp at h
          · simp only [cond_true] at h
            split at h
            · exact ⟨_, by assumption⟩
            · simp at h
        case str.str =>
          split at h
          · exact ⟨_, by assumption⟩
          · simp at h
        case bool.bool =>
          split at h
          · exact ⟨_, by assumption⟩
          · simp at h
        all_goals (simp at h)
      obtain ⟨r', h'⟩ := this
      simp [ih h']

theorem EncL.split {a1 a2 : List DV} {xs : List Value} (h : EncL o w (a1 ++ a2) xs) : ∃ x1 x2, xs = x1 ++ x2 ∧ EncL o w a1 x1 ∧ EncL o w a2 x2 := by
  induction a1 generalizing xs with
  | nil => exact ⟨[], xs, rfl, .nil, h⟩
  | cons v a1 ih =>
    cases h with | cons hh t =>
    obtain ⟨x1, x2, e, h1, h2⟩ := ih t
    exact ⟨_ :: x1, x2, by rw [e]; rfl, .cons hh h1, h2⟩

def mkv (P : Program) (t : TypeId) (xs : List Value) : Value :=
  match P.underlying t with
  | some (.struct _) => .agg xs.toArray
  | _ => xs.headD undef

theorem baEq (a b : List UInt8) : ((⟨a.toArray⟩ : ByteArray) == ⟨b.toArray⟩) = decide (a = b) := by
  rw [beq_toListBytes, str_toList, str_toList, lbeq]

theorem eq_pair (d : Nat) : (∀ t z, eqKinds P d t = some z → ∀ d', d ≤ d' → ∀ (a b : List DV) (r : Bool) (xs ys : List Value), kindsB z a = true → eqCells a b = some r → EncL o w a xs → EncL o w b ys →
      (Op.equalIn d' t (mkv P t xs) (mkv P t ys)).run P w = .ok r w) ∧
    (∀ (l : List Field) off z, eqKindsL P (eqKinds P d) off l = some z → ∀ d', d ≤ d' → ∀ (X Y : Array Value) (a b : List DV) (r : Bool) (xs ys : List Value), kindsB z a = true → eqCells a b = some r → EncL o w a xs → EncL o w b ys → X.toList.drop off = xs → Y.toList.drop off = ys →
      (Op.eqFields d' X Y l).run P w = .ok r w) := by
  induction d with
  | zero =>
    refine ⟨fun t z h => by simp [eqKinds] at h, fun l off z h d' _ X Y a b r xs ys hk he hx hy _ _ => ?_⟩
    cases l with
    | nil =>
      simp [eqKindsL] at h; subst h
      cases a <;> simp [kindsB] at hk
      cases b <;> simp [eqCells] at he
      subst he
      simp [Op.eqFields]
    | cons f l =>
      simp only [eqKindsL] at h
      cases hb : (f.name != "_" && Nat.beq f.offset off) <;> rw [hb] at h <;> simp [eqKinds] at h
  | succ d ih =>
    have H1 : ∀ t z, eqKinds P (d + 1) t = some z → ∀ d', d + 1 ≤ d' → ∀ (a b : List DV) (r : Bool) (xs ys : List Value), kindsB z a = true → eqCells a b = some r → EncL o w a xs → EncL o w b ys →
      (Op.equalIn d' t (mkv P t xs) (mkv P t ys)).run P w = .ok r w := by
      intro t z h d' hd a b r xs ys hk he hx hy
      obtain ⟨d', rfl⟩ : ∃ e, d' = e + 1 := ⟨d' - 1, by omega⟩
      simp only [eqKinds] at h
      split at h
      · rename_i hu
        simp at h; subst h
        cases hx with
        | nil => simp [kindsB] at hk
        | cons h1 t1 =>
        cases h1 <;> simp [kindsB] at hk
        rename_i p
        cases hy with
        | nil => simp [eqCells] at he
        | cons h2 t2 =>
        cases h2 <;> simp only [eqCells] at he <;> (try (simp at he; done))
        cases t1 with | cons => simp [kindsB] at hk | nil =>
        cases t2 with | cons => simp [eqCells] at he | nil =>
        simp [eqCells] at he; subst he
        simp [mkv, hu, Op.equalIn, run_underlying hu]
      · rename_i k hu
        simp at h; subst h
        cases hx with
        | nil => simp [kindsB] at hk
        | cons h1 t1 =>
        cases h1 <;> simp [kindsB] at hk
        rename_i k1 m1
        cases hy with
        | nil => simp [eqCells] at he
        | cons h2 t2 =>
        cases h2 <;> simp only [eqCells] at he <;> (try (simp at he; done))
        rename_i k2 m2
        cases t1 with | cons => simp [kindsB] at hk | nil =>
        cases t2 with | cons => cases hkk : (k1 == k2) <;> rw [hkk] at he <;> simp [eqCells] at he | nil =>
        cases hkk : (k1 == k2) with
        | false => rw [hkk] at he; simp at he
        | true =>
        rw [hkk] at he
        simp [eqCells] at he; subst he
        have : k1 = k2 := by simpa using hkk
        subst this
        simp [mkv, hu, Op.equalIn, run_underlying hu]
        rfl
      · rename_i hu
        simp at h; subst h
        cases hx with
        | nil => simp [kindsB] at hk
        | cons h1 t1 =>
        cases h1 <;> simp [kindsB] at hk
        rename_i s1 hs1
        cases hy with
        | nil => simp [eqCells] at he
        | cons h2 t2 =>
        cases h2 <;> simp only [eqCells] at he <;> (try (simp at he; done))
        rename_i s2 hs2
        cases t1 with | cons => simp [kindsB] at hk | nil =>
        cases t2 with | cons => simp [eqCells] at he | nil =>
        simp only [eqCells, Bool.and_true, Option.some.injEq] at he
        subst he
        simp [mkv, hu, Op.equalIn, run_underlying hu, baEq]
      · rename_i fs hu
        rw [bif_some] at h
        obtain ⟨hs, h⟩ := h
        have hfs : P.fieldsOf t = fs := by simp [Program.fieldsOf, hu]
        have hm : ∀ l, mkv P t l = .agg l.toArray := fun l => by simp [mkv, hu]
        rw [hm, hm, run_equalIn_struct w d' t _ _ (by rw [hfs]; exact hu) (by simpa using hs), hfs]
        exact ih.2 fs.toList 0 z h d' (by omega) _ _ a b r xs ys hk he hx hy (by simp) (by simp)
      · simp at h
    refine ⟨H1, ?_⟩
    intro l
    induction l with
    | nil =>
      intro off z h d' _ X Y a b r xs ys hk he hx hy _ _
      simp [eqKindsL] at h; subst h
      cases a <;> simp [kindsB] at hk
      cases b <;> simp [eqCells] at he
      subst he
      simp [Op.eqFields]
    | cons f l ihl =>
      intro off z h d' hd X Y a b r xs ys hk he hx hy hX hY
      simp only [eqKindsL] at h
      rw [bif_some] at h
      obtain ⟨hn, h⟩ := h
      simp only [Bool.and_eq_true] at hn
      obtain ⟨hn, ho⟩ := hn
      have ho := Nat.eq_of_beq_eq_true ho
      split at h
      · rename_i z1 hz1
        split at h
        · rename_i i hi
          rw [bif_some] at h
          obtain ⟨hsz, h⟩ := h
          have hsz := Nat.eq_of_beq_eq_true hsz
          split at h
          · rename_i z2 hz2
            simp at h; subst h
            obtain ⟨a1, a2, rfl, hk1, hk2, hl1⟩ := kindsB_append hk
            obtain ⟨b1, b2, r1, r2, rfl, he1, he2, rfl⟩ := eqCells_append he
            obtain ⟨x1, x2, rfl, hx1, hx2⟩ := hx.split
            obtain ⟨y1, y2, rfl, hy1, hy2⟩ := hy.split
            have hxl : x1.length = z1.length := by rw [← hx1.length, hl1]
            have hyl : y1.length = z1.length := by rw [← hy1.length, ← eqCells_length he1, hl1]
            have hrun := H1 f.type z1 hz1 d' hd a1 b1 r1 x1 y1 hk1 he1 hx1 hy1
            have hrest := ihl (off + z1.length) z2 hz2 d' hd X Y a2 b2 r2 x2 y2 hk2 he2 hx2 hy2 (by rw [← List.drop_drop, hX, ← hxl]; simp) (by rw [← List.drop_drop, hY, ← hyl]; simp)
            have hpart : ∀ (Z : Array Value) (q1 q2 : List Value), q1.length = z1.length → Z.toList.drop off = q1 ++ q2 → (part f.type Z f.offset).run P w = .ok (mkv P f.type q1) w := by
              intro Z q1 q2 hq hZ
              have hex : Z.extract off (off + i.size) = q1.toArray := by
                apply Array.ext'
                rw [Array.toList_extract]
                simp only [List.extract_eq_take_drop, hZ, hsz, ← hq, Nat.add_sub_cancel_left]
                simp
              simp only [eqKinds] at hz1
              split at hz1
              · rename_i hu
                simp at hz1; subst hz1
                match q1, hq with
                | [q], _ =>
                  have : Z[off]? = some q := by rw [← Array.getElem?_toList, ← List.head?_drop, hZ]; rfl
                  simp [part, isAgg, run_underlying hu, ho, this, mkv, hu]
              · rename_i k hu
                simp at hz1; subst hz1
                match q1, hq with
                | [q], _ =>
                  have : Z[off]? = some q := by rw [← Array.getElem?_toList, ← List.head?_drop, hZ]; rfl
                  simp [part, isAgg, run_underlying hu, ho, this, mkv, hu]
              · rename_i hu
                simp at hz1; subst hz1
                match q1, hq with
                | [q], _ =>
                  have : Z[off]? = some q := by rw [← Array.getElem?_toList, ← List.head?_drop, hZ]; rfl
                  simp [part, isAgg, run_underlying hu, ho, this, mkv, hu]
              · rename_i fs hu
                simp [part, isAgg, run_underlying hu, sizeOf, typeInfo, hi, ho, hex, mkv, hu]
              · simp at hz1
            have hn' : f.name ≠ "_" := by simpa using hn
            simp only [Op.eqFields, hn', ne_eq, not_false_eq_true, if_true, Sem.run_bind, hpart X x1 x2 hxl hX, hpart Y y1 y2 hyl hY, hrun, Result.andThen_ok]
            cases r1
            · simp
            · simpa using hrest
          · simp at h
        · simp at h
      · simp at h

theorem eqOk_of {t : TypeId} {z : List DV} {d : Nat} (hd : d ≤ 10000) (h : eqKinds P d t = some z) (hs : (match P.underlying t with | some (.struct _) => true | _ => false) = true) (hg : P.eqGuardType P.depth t = false) : EqOk P z t := by
  refine ⟨hg, fun a b r xs ys o w hk he hx hy => ?_⟩
  have := (eq_pair (o := o) (w := w) d).1 t z h 10000 hd a b r xs ys hk he hx hy
  have hm : ∀ l, mkv P t l = .agg l.toArray := fun l => by
    unfold mkv
    split
    · rfl
    · rename_i hne
      split at hs
      · rename_i fs hfs; exact absurd hfs (hne fs)
      · simp at hs
  rwa [hm, hm] at this
end
end Go.PS
end

section
namespace Go.PS
open Go.RowKit

def Tr.map {α β : Type} (f : α → β) : Tr α → Tr β
  | .ok a => .ok (f a)
  | .cnd b x y => .cnd b (x.map f) (y.map f)
  | .chk b x => .chk b (x.map f)
  | .no => .no

theorem Tr.val_ok {α : Type} (a : α) : (Tr.ok a).val = some a := rfl
theorem Tr.val_cnd {α : Type} (b : Bool) (x y : Tr α) : (Tr.cnd b x y).val = PS.cnd b x.val y.val := rfl
theorem Tr.val_chk {α : Type} (b : Bool) (x : Tr α) : (Tr.chk b x).val = PS.chk b x.val := rfl
theorem Tr.val_no {α : Type} : (Tr.no : Tr α).val = none := rfl

theorem Tr.val_map {α β : Type} (f : α → β) (t : Tr α) : (t.map f).val = t.val.map f := by
  induction t with
  | ok a => rfl
  | cnd b x y ihx ihy => cases b <;> simpa only [Tr.map, Tr.val, Tr.run, PS.cnd] using (by assumption)
  | chk b x ih => cases b <;> first | rfl | simpa only [Tr.map, Tr.val, Tr.run, PS.chk] using ih
  | no => rfl

def frameTAt (ids : List Nat) (S : List PV → List PObj → Tr (Out × List PObj)) (args : List PV) (H : List PObj) : Tr (Out × List PObj) :=
  bif nodupN ids then (match inV.inVs ids args with
    | some as => match subH ids H ids with
      | some H1 => (S as H1).map fun p => (outOut (gid H.length ids) p.1, putH (gid H.length ids) H ids p.2)
      | none => .no
    | none => .no) else .no

def frameT (S : List PV → List PObj → Tr (Out × List PObj)) (args : List PV) (H : List PObj) : Tr (Out × List PObj) :=
  frameTAt (visit 200 H [] args) S args H

theorem frameT_val (S : List PV → List PObj → Tr (Out × List PObj)) (args : List PV) (H : List PObj) : (frameT S args H).val = frame (fun a h => (S a h).val) args H := by
  unfold frameT frame frameTAt frameAt
  cases nodupN (visit 200 H [] args) with
  | false => rfl
  | true =>
    simp only [cond_true]
    cases inV.inVs (visit 200 H [] args) args with
    | none => rfl
    | some as =>
      cases subH (visit 200 H [] args) H (visit 200 H [] args) with
      | none => rfl
      | some H1 =>
        dsimp only
        rw [Tr.val_map]
        cases (S as H1).val <;> rfl

section
variable {P : Program} {C : Ctx} {W0 : World}

theorem Sound.frameT {f : FuncId} {S : List PV → List PObj → Tr (Out × List PObj)} (hS : Sound P W0 f fun a h => (S a h).val) : Sound P W0 f fun a h => (PS.frameT S a h).val := by
  have := hS.frame
  simpa only [frameT_val] using this

def EKOk (P : Program) (W0 : World) (f : Nat) : EK → Prop
  | .pure s => SoundP P W0 f fun args => (s args).val
  | .eff s => Sound P W0 f fun args H => (s args H).val

def look (l : List (Nat × EK)) (f : Nat) : Option EK :=
  match l with
  | [] => none
  | (g, e) :: l => bif Nat.beq g f then some e else look l f

theorem look_ok {l : List (Nat × EK)} (h : ∀ p ∈ l, EKOk P W0 p.1 p.2) {tys eqs F} : EnvOk P W0 ⟨tys, eqs, look l, F⟩ := by
  intro f ek hf
  have key : EKOk P W0 f ek := by
    replace hf : look l f = some ek := hf
    induction l with
    | nil => simp [look] at hf
    | cons p l ih =>
      obtain ⟨g, e⟩ := p
      simp only [look] at hf
      cases hb : Nat.beq g f with
      | true =>
        rw [hb] at hf
        simp at hf; subst hf
        have := Nat.eq_of_beq_eq_true hb
        subst this
        exact h (g, e) (List.mem_cons_self ..)
      | false =>
        rw [hb] at hf
        exact ih (fun q hq => h q (List.mem_cons_of_mem _ hq)) (by simpa using hf)
  cases ek <;> exact key

theorem all_nil : ∀ p ∈ ([] : List (Nat × EK)), EKOk P W0 p.1 p.2 := by simp
theorem all_cons {f : Nat} {e : EK} {l : List (Nat × EK)} (h : EKOk P W0 f e) (hl : ∀ p ∈ l, EKOk P W0 p.1 p.2) : ∀ p ∈ (f, e) :: l, EKOk P W0 p.1 p.2 := by
  intro p hp
  rcases List.mem_cons.1 hp with rfl | hp
  · exact h
  · exact hl p hp

/-- the facts of a function that its contract stands on -/
structure FnOk (P : Program) (f : FuncId) (n : Nat) (rs : List ResultVar) (c : Code) : Prop where
  ex : ∃ fn : Func, P.funcs[f]? = some fn ∧ fn.body = some c ∧ (fn.name == "runtime.NumGoroutine") = false ∧ fn.ntmps = n ∧ fn.results.toList = rs ∧ nodupN (tmpsOf rs) = true

theorem eff_of (hC : TyOk P C) (hE : EnvOk P W0 C) (hm : P.follows .mixedOrders = true) {f : FuncId} {n : Nat} {rs : List ResultVar} {c : Code} (hf : FnOk P f n rs c) {L : Lps} (hL : LpsOk C L (loopsOf c))
    {S : List PV → List PObj → Tr (Out × List PObj)} (h : ∀ args H r, (S args H).val = some r → runE C L n rs c args H = some r) : EKOk P W0 f (.eff (PS.frameT S)) := by
  obtain ⟨fn, h1, h2, h3, rfl, rfl, h6⟩ := hf.ex
  exact Sound.frameT (sound_of hC hE hm h1 h2 h3 h6 hL h)

theorem pure_of (hC : TyOk P C) (hE : EnvOk P W0 C) (hm : P.follows .mixedOrders = true) {f : FuncId} {n : Nat} {rs : List ResultVar} {c : Code} (hf : FnOk P f n rs c) {L : Lps} (hL : LpsOk C L (loopsOf c))
    {S : List PV → Tr PV} (h : ∀ args v, (S args).val = some v → runP C L n rs c args = some v) : EKOk P W0 f (.pure S) := by
  obtain ⟨fn, h1, h2, h3, rfl, rfl, h6⟩ := hf.ex
  exact soundP_of hC hE hm h1 h2 h3 h6 hL h

/-! loops -/
/-- a round of a loop -/
def roundK {R : Type} (body : St → (Ex → St → Option R) → Option R) (n : Nat) (ts xs : List Nat) (st : St) (k : Ex → St → Option R) (g : St → Option R) : Option R :=
  body st fun e st' => match e with
    | .normal => head n ts st' g
    | .pan v => k (.pan v) ⟨forget xs st'.slots, st'.heap⟩
    | e => k e (cutSt n (forget xs st'.slots) st'.heap)

theorem loopK_succ {R : Type} (body : St → (Ex → St → Option R) → Option R) (n : Nat) (ts xs : List Nat) (m : Nat) (st : St) (k : Ex → St → Option R) : loopK body n ts xs (m + 1) st k = roundK body n ts xs st k fun st' => loopK body n ts xs m st' k := rfl

/-- what a round comes to: the loop's end, or the next round's beginning -/
def rnd {R : Type} (k : Ex → St → Option R) (g : St → Option R) : (Ex × St) ⊕ St → Option R
  | .inl p => k p.1 p.2
  | .inr st => g st

/-- slots, by the few that are in use -/
def sl : List PV → List (Nat × PV) → List PV
  | l, [] => l
  | l, (i, v) :: r => sl (up l i v) r

def slots (n : Nat) (l : List (Nat × PV)) : List PV := sl (rep n .undef) l

/-- all numbers below one, but for some -/
def allBut (n : Nat) (l : List Nat) : List Nat := (List.range n).filter fun i => !memN i l

end
end Go.PS
end

section
namespace Go.PS

def isUndef : PV → Bool
  | .undef => true
  | _ => false

def shapeFrom (live : List Nat) : Nat → List PV → Bool
  | _, [] => true
  | i, v :: l => (memN i live || isUndef v) && shapeFrom live (i + 1) l

/-- so many slots, and but for some all of them forgotten -/
def shape (n : Nat) (live : List Nat) (l : List PV) : Bool := Nat.beq l.length n && shapeFrom live 0 l

theorem memN_iff {t : Nat} {l : List Nat} : memN t l = true ↔ t ∈ l := by
  induction l with
  | nil => simp [memN]
  | cons u l ih =>
    simp only [memN, Bool.or_eq_true, ih, List.mem_cons]
    constructor
    · rintro (h | h)
      · exact .inl (Nat.eq_of_beq_eq_true h).symm
      · exact .inr h
    · rintro (rfl | h)
      · exact .inl (by simp)
      · exact .inr h

theorem shapeFrom_get {live : List Nat} : ∀ {l : List PV} {i : Nat}, shapeFrom live i l = true → ∀ j, i + j ∉ live → gt .undef l j = .undef := by
  intro l
  induction l with
  | nil => intro i _ j _; rfl
  | cons v l ih =>
    intro i h j hj
    simp only [shapeFrom, Bool.and_eq_true, Bool.or_eq_true] at h
    cases j with
    | zero =>
      rcases h.1 with h1 | h1
      · exact absurd (memN_iff.1 h1) hj
      · cases v <;> simp [isUndef] at h1
        rfl
    | succ j => exact ih h.2 j (by rw [show i + 1 + j = i + (j + 1) by omega]; exact hj)

theorem sl_length : ∀ (u : List (Nat × PV)) (l : List PV), (sl l u).length = l.length := by
  intro u
  induction u with
  | nil => intro l; rfl
  | cons p u ih => intro l; obtain ⟨i, v⟩ := p; simp [sl, ih]

theorem sl_get : ∀ (live : List Nat) (f : Nat → PV) (l : List PV) (j : Nat), gt .undef (sl l (live.map fun i => (i, f i))) j = if j ∈ live ∧ j < l.length then f j else gt .undef l j := by
  intro live f
  induction live with
  | nil => intro l j; simp [sl]
  | cons i live ih =>
    intro l j
    simp only [List.map_cons, sl]
    rw [ih, up_length, gt_up]
    by_cases h1 : j ∈ live ∧ j < l.length
    · rw [if_pos h1, if_pos ⟨List.mem_cons_of_mem _ h1.1, h1.2⟩]
    · rw [if_neg h1]
      by_cases h2 : j = i ∧ i < l.length
      · rw [if_pos h2]
        obtain ⟨rfl, h2⟩ := h2
        rw [if_pos ⟨List.mem_cons_self .., h2⟩]
      · rw [if_neg h2, if_neg]
        rintro ⟨h3, h4⟩
        rcases List.mem_cons.1 h3 with rfl | h3
        · exact h2 ⟨rfl, h4⟩
        · exact h1 ⟨h3, h4⟩

/-- what the slots are -/
theorem shape_eq {n : Nat} {live : List Nat} {l : List PV} (h : shape n live l = true) : l = slots n (live.map fun i => (i, gt .undef l i)) := by
  unfold shape at h
  simp only [Bool.and_eq_true] at h
  obtain ⟨h1, h2⟩ := h
  have h1 := Nat.eq_of_beq_eq_true h1
  unfold slots
  apply List.ext_getElem?
  intro j
  have hlen : (sl (rep n PV.undef) (live.map fun i => (i, gt .undef l i))).length = n := by rw [sl_length, rep_eq]; simp
  by_cases hj : j < n
  · have e1 : l[j]? = some (gt .undef l j) := by rw [gt_eq, List.getElem?_eq_getElem (by omega)]; rfl
    have e2 : (sl (rep n PV.undef) (live.map fun i => (i, gt .undef l i)))[j]? = some (gt .undef (sl (rep n PV.undef) (live.map fun i => (i, gt .undef l i))) j) := by rw [gt_eq, List.getElem?_eq_getElem (by omega)]; rfl
    rw [e1, e2, sl_get]
    congr 1
    split
    · rfl
    · rename_i hn
      have : j ∉ live := fun hm => hn ⟨hm, by rw [rep_eq]; simpa using hj⟩
      rw [shapeFrom_get h2 j (by simpa using this), rep_eq, gt_eq]
      cases hh : (List.replicate n PV.undef)[j]? with
      | none => rfl
      | some x => have := List.mem_of_getElem? hh; rw [List.mem_replicate] at this; rw [this.2]; rfl
  · rw [List.getElem?_eq_none (by omega), List.getElem?_eq_none (by omega)]

/-- one loop's summary -/
theorem lps_one {C : Ctx} {L : Lps} {c : Code} {id : Nat} {ks xs : List Nat} {T : St → Tr (Ex × St)} (hL : L = fun i => bif Nat.beq i id then some (ks, xs, T) else none) {l : List Code} (hl : l = [c])
    (h : ∀ (R : Type) st (K : Ex → St → Option R) (r : R), ((T st).run fun p => K p.1 p.2) = some r → loopK (pcodeK C L c) st.heap.length (ks ++ temps c) xs C.fuel st K = some r) : LpsOk C L l := by
  subst hL hl
  intro c' hc ks' xs' T' hT R st K r hr
  simp only [List.mem_singleton] at hc
  subst hc
  dsimp only at hT
  cases hb : Nat.beq (loopId c') id with
  | false => rw [hb] at hT; simp at hT
  | true =>
    rw [hb] at hT
    simp only [cond_true, Option.some.injEq, Prod.mk.injEq] at hT
    obtain ⟨rfl, rfl, rfl⟩ := hT
    exact h R st K r hr

end Go.PS
end

section
namespace Go.PS
section
variable {R : Type}
def drawKA (A : Option R → Option R → Option R) (C : Ctx) (ops : List Oper) (kp : DV → List PObj → Option R) (k : St → Option R) (st : St) : Option R :=
  match altOrder (numbered 0 ops) with
  | none => runD C ops (hasApp ops) false kp k (numbered 0 ops) noSy st
  | some l => bif !allOk C ops then none else A (runD C ops (hasApp ops) true kp k (numbered 0 ops) noSy st) (runD C ops (hasApp ops) true kp k l noSy st)

/-- code, of which a way to bring two runs together is left open -/
def pcodeKA (A : Option R → Option R → Option R) (C : Ctx) (L : Lps) : Code → St → (Ex → St → Option R) → Option R
  | .skip, st, k | .label _, st, k => k .normal st
  | .region _ ops draw, st, k => bif draw then drawKA A C ops.toList (fun v h => k (.pan v) ⟨[], h⟩) (k .normal) st
    else popsK C ops.toList (fun v h => k (.pan v) ⟨[], h⟩) (k .normal) ops.toList noSy st
  | .seq a b, st, k => pcodeKA A C L a st fun e st' => match e with
    | .normal => pcodeKA A C L b st' k
    | e => k e st'
  | .cond c a b, st, k => match ev st c with
    | .d (.bool t) => cnd t (pcodeKA A C L a (settle st c true) k) (pcodeKA A C L b (settle st c false) k)
    | _ => none
  | .block id c, st, k => pcodeKA A C L c st fun e st' => match e with
    | .exit j => bif Nat.beq j id then k .normal st' else k (.exit j) st'
    | e => k e st'
  | .loop c, st, k => match L (loopId c) with
    | some (ks, _, T) => head st.heap.length (ks ++ temps c) st fun st' => (T st').run fun p => k p.1 p.2
    | none => head st.heap.length (temps c) st fun st' => loopK (pcodeKA A C L c) st.heap.length (temps c) (temps c) C.fuel st' k
  | .exit id, st, k => k (.exit id) st
  | .ret, st, k => k .ret st
  | _, _, _ => none

theorem pcodeKA_amb (C : Ctx) (L : Lps) (c : Code) : pcodeKA (R := R) amb C L c = pcodeK C L c := by
  induction c with
  | skip => rfl
  | region => rfl
  | seq a b iha ihb =>
    funext st k
    simp only [pcodeKA, pcodeK, iha, ihb]
    all_goals rfl
  | cond c a b iha ihb =>
    funext st k
    simp only [pcodeKA, pcodeK, iha, ihb]
    all_goals rfl
  | block id c ih =>
    funext st k
    simp only [pcodeKA, pcodeK, ih]
    all_goals rfl
  | loop c ih =>
    funext st k
    simp only [pcodeKA, pcodeK, ih]
    all_goals rfl
  | _ => rfl

noncomputable def runPA (A : Option PV → Option PV → Option PV) (C : Ctx) (L : Lps) (n : Nat) (rs : List ResultVar) (c : Code) (args : List PV) : Option PV :=
  match argsK args with
  | some vs => pcodeKA A C L c ⟨vs ++ rep (n - args.length) .undef, []⟩ fun e st => match e with
    | .normal | .ret => resK C rs st
    | _ => none
  | none => none
noncomputable def runEA (A : Option (Out × List PObj) → Option (Out × List PObj) → Option (Out × List PObj)) (C : Ctx) (L : Lps) (n : Nat) (rs : List ResultVar) (c : Code) (args : List PV) (H : List PObj) : Option (Out × List PObj) :=
  match argsE args with
  | some vs => pcodeKA A C L c ⟨vs ++ rep (n - args.length) .undef, H⟩ fun e st => match e with
    | .normal | .ret => retK C H.length rs st
    | .pan v => panK H.length v st.heap
    | .exit _ => none
  | none => none
theorem runPA_amb (C : Ctx) (L : Lps) (n : Nat) (rs : List ResultVar) (c : Code) (args : List PV) : runPA amb C L n rs c args = runP C L n rs c args := by
  unfold runPA runP
  rw [pcodeKA_amb]
  all_goals rfl
theorem runEA_amb (C : Ctx) (L : Lps) (n : Nat) (rs : List ResultVar) (c : Code) (args : List PV) (H : List PObj) : runEA amb C L n rs c args H = runE C L n rs c args H := by
  unfold runEA runE
  rw [pcodeKA_amb]
  all_goals rfl
theorem amb_self (x : Option R) : amb x x = x := by unfold amb; rw [if_pos rfl]
end
end Go.PS
end
