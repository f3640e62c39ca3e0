/- A part of the proof of the claim (the pure semantics PS and the contracts of the functions over it). -/
import Derived.Test.YtihpkebhgkfiaaaDoorPsC
import Derived.Recover
set_option linter.all false
section
namespace Go.PS
open Go.RowKit
section
variable {P : Program} {C : Ctx} {W0 : World} {o : Own} {sig : List Nat} {st : St} {a : Act} {w : World} {R : Type} {tm : Array Value}

/-- of a deferred function: the value that runs up the stack (none: none does), its arguments and memory: does it stop it, and the memory behind it -/
abbrev SD := Option DV → List PV → List PObj → Option (Bool × List PObj)

/-- the way in which a deferred function is entered -/
def ModeIs (o : Own) (w : World) : Option DV → FrameMode → Prop
  | none, u => u = .returning
  | some v, u => ∃ x, Enc o w v x ∧ u = .panicking [{ v := x, recovered := false }]

/-- the way in which it is left -/
def modeEnd (b : Bool) : FrameMode → FrameMode
  | .panicking [e] => .panicking [{ e with recovered := b }]
  | u => u

structure SoundD (P : Program) (W0 : World) (f : FuncId) (S : SD) : Prop where
  enters : ∀ args w, (callFunc f args).run P w = .ok (.enter f args) w
  calls : ∀ m args H b H', S m args H = some (b, H') → ∀ o sig w xs u, Gl W0 o w → RelH o sig H w → PEncL o w sig args xs → ModeIs o w m u →
    CallsD P f xs.toArray u w fun e u' w' => (∃ y, e = .returned y) ∧ u' = modeEnd b u ∧ ∃ o' sig', Gl W0 o' w' ∧ RelH o' sig' H' w' ∧ Step o w o' w' ∧ SigExt sig sig'

/-- what it is told of that -/
def modeV : Option DV → DV
  | none => .nili
  | some v => v

/-- a deferred function that asks first for what runs up the stack -/
noncomputable def runR (C : Ctx) (L : Lps) (n t d : Nat) (c : Code) (m : Option DV) (args : List PV) (H : List PObj) : Option (Bool × List PObj) :=
  match argsE args with
  | some vs => pcodeK C L c ((St.put ⟨vs ++ rep (n - args.length) .undef, H⟩ (some t) (.d (modeV m))).put (some d) (.d (modeV m))) fun e st => match e with
    | .normal | .ret => bif belowH H.length (tk st.heap H.length) then some (m.isSome, tk st.heap H.length) else some (m.isSome, st.heap)
    | _ => none
  | none => none

theorem Step.relR {ψ : Pl → Pl} (h0 : ψ .ext = .ext) {o' : Own} {w' : World} (h : Step o w o' w') : Step o w (rel ψ o') w' := by
  refine ⟨h.os, h.tape, h.output, h.size, fun b hb hp => ?_, fun b off x hx => rel_stab (h.stab _ _ _ hx)⟩
  obtain ⟨e1, e2⟩ := h.prot b hb hp
  refine ⟨e1, ?_⟩
  unfold rel
  rw [e2]
  cases hob : o b with
  | none => rfl
  | some q =>
    obtain ⟨lo, p⟩ := q
    rw [hob] at hp
    cases p <;> simp [Prot] at hp
    simp [h0]

theorem Step.relL {o' : Own} {w' : World} (h : Step (rel inw o) w o' w') (hx : ∀ b, b < w.heap.size → Prot (o b) → o' b = o b) : Step o w o' w' := by
  refine ⟨h.os, h.tape, h.output, h.size, fun b hb hp => ?_, fun b off x hx => h.stab _ _ _ (rel_stab hx)⟩
  have : Prot (rel inw o b) := by
    unfold rel
    cases hob : o b with
    | none => trivial
    | some q =>
      obtain ⟨lo, p⟩ := q
      rw [hob] at hp
      cases p <;> simp [Prot] at hp
      trivial
  exact ⟨(h.prot b hb this).1, hx b hb hp⟩

theorem soundD_of (hC : TyOk P C) (hE : EnvOk P W0 C) (hm : P.follows .mixedOrders = true) {f : FuncId} {fn : Func} (hf : P.funcs[f]? = some fn) {id t d : Nat} {rc as : Oper} {c : Code}
    (hb : fn.body = some (.seq (.region id #[rc, as] false) c)) (hn : (fn.name == "runtime.NumGoroutine") = false) (hrs : fn.results = #[])
    (r1 : rc.op = .call { callee := .builtin .recover, args := #[], argTypes := #[] }) (r2 : rc.dst = some t) (r3 : rc.guard = none) (a1 : as.op = .assign (.tmp t)) (a2 : as.dst = some d) (a3 : as.guard = none)
    (ht : t < fn.ntmps)
    {L : Lps} (hL : LpsOk C L (loopsOf c)) {S : SD} (h : ∀ m args H r, S m args H = some r → runR C L fn.ntmps t d c m args H = some r) : SoundD P W0 f S := by
  refine ⟨enters_of hf hb hn, ?_⟩
  intro m args H b H' hs o sig w xs u hg hh hx hu
  have h := h m args H _ hs
  unfold runR at h
  split at h
  rotate_left
  · simp at h
  rename_i us hus
  have hrel := enter_rel (fn := fn) hg hh hx hus
  have hxl : xs.length = args.length := hx.length.symm
  refine callsD_of_wpS hf hb fun c₀ cs hc₀ => ?_
  refine wpS_seq (wpS_region ?_)
  obtain ⟨rop, rd, rt, rp, raf, rg⟩ := rc
  obtain ⟨aop, ad, at_, ap, aaf, ag⟩ := as
  dsimp only at r1 r2 r3 a1 a2 a3
  subst r1 r2 r3 a1 a2 a3
  -- what is handed out
  obtain ⟨x, cs', u', hrec, hcs', hu', hv⟩ : ∃ x cs' u', (match recoverD (c₀ :: cs) with | some (v, cs') => (v, cs') | none => (.nilIface, c₀ :: cs)) = (x, cs') ∧ cs' = { c₀ with mode := u' } :: cs ∧ u' = modeEnd m.isSome u ∧
      Enc (rel inw o) w (modeV m) x := by
    cases m with
    | none =>
      have hu : u = .returning := hu
      refine ⟨.nilIface, c₀ :: cs, .returning, ?_, ?_, ?_, .nili⟩
      · have : recoverD (c₀ :: cs) = none := by simp only [recoverD, hc₀, hu]
        rw [this]
      · rw [← hu, ← hc₀]
      · rw [hu]; rfl
    | some v =>
      obtain ⟨x, hx, hu⟩ := hu
      refine ⟨x, { c₀ with mode := .panicking [{ v := x, recovered := true }] } :: cs, .panicking [{ v := x, recovered := true }], ?_, rfl, ?_, hx.mono fun _ _ _ h => rel_stab h⟩
      · have : recoverD (c₀ :: cs) = some (x, { c₀ with mode := .panicking [{ v := x, recovered := true }] } :: cs) := by
          simp only [recoverD, hc₀, hu]
        rw [this]
      · rw [hu]; rfl
  let a0 : Act := { tmps := xs.toArray ++ Array.replicate (fn.ntmps - xs.toArray.size) undef, defers := [] }
  have hsz : t < a0.tmps.size := by show t < (xs.toArray ++ Array.replicate (fn.ntmps - xs.toArray.size) undef).size; simp; omega
  have key : (Exit.thenS (c.wpS P (bodyPostS P fn c₀ cs (fun e u'' w' => (∃ y, e = .returned y) ∧ u'' = modeEnd b u ∧ ∃ o' sig', Gl W0 o' w' ∧ RelH o' sig' H' w' ∧ Step o w o' w' ∧ SigExt sig sig')))
      (bodyPostS P fn c₀ cs (fun e u'' w' => (∃ y, e = .returned y) ∧ u'' = modeEnd b u ∧ ∃ o' sig', Gl W0 o' w' ∧ RelH o' sig' H' w' ∧ Step o w o' w' ∧ SigExt sig sig'))) .normal ((a0.put (some t) x).put (some d) x) cs' w := by
    show c.wpS P _ _ _ _
    refine wpS_of_wp ?_
    have hr1 : Rel W0 (rel inw o) sig _ ((a0.put (some t) x).put (some d) x).tmps w := (hrel.put (a := a0) (dst := some t) (PEnc.d hv) fun _ _ k => cap_cmp_noOwn (v := .d _) trivial (by simp) k).put (dst := some d) (PEnc.d hv) fun _ _ k => cap_cmp_noOwn (v := .d _) trivial (by simp) k
    refine pcodeK_sound (ds := []) hC hE hm c hL hr1 rfl ?_ h
    intro e st' o' sig' a' w' ex k1 k2 k3 k4 k5
    have fin : Rel W0 o' sig' st' a'.tmps w' → (bif belowH H.length (tk st'.heap H.length) then some (m.isSome, tk st'.heap H.length) else some (m.isSome, st'.heap)) = some (b, H') →
        ∃ u'', cs' = { c₀ with mode := u'' } :: cs ∧ ∃ v, (results fn a'.tmps).run P w' = .ok v w' ∧ ((∃ y, Ending.returned v = .returned y) ∧ u'' = modeEnd b u ∧ ∃ o' sig', Gl W0 o' w' ∧ RelH o' sig' H' w' ∧ Step o w o' w' ∧ SigExt sig sig') := by
      intro k2 k1
      obtain ⟨y, hy, _⟩ := resVs_sound (P := P) hC k2 (fn := fn) (by rw [hrs]; rfl) (vs := []) (by rw [hrs]; rfl)
      refine ⟨u', hcs', y, hy, ⟨_, rfl⟩, ?_, ?_⟩
      · rw [hu']
        cases hbb : belowH H.length (tk st'.heap H.length) <;> (rw [hbb] at k1; simp at k1; rw [k1.1])
      · have hl : ∀ sig2 H2, RelH o' sig2 H2 w' → SigExt sig sig2 → ∃ o2 sig', Gl W0 o2 w' ∧ RelH o2 sig' H2 w' ∧ Step o w o2 w' ∧ SigExt sig sig' := by
          intro sig2 H2 g1 g2
          obtain ⟨l1, l2, l3, l4, l5⟩ := leave (ψ := outR []) rfl (fun _ => rfl) (fun _ _ => rfl) hg k2.gl k3 g1
          exact ⟨_, _, l1, l2, l3, g2⟩
        cases hbb : belowH H.length (tk st'.heap H.length) with
        | true =>
          rw [hbb] at k1; simp at k1
          rw [tk_eq] at hbb
          rw [← k1.2, tk_eq]
          exact hl _ _ (k2.hp.take _ hbb) (by rw [← hh.sigl]; exact k4.take)
        | false =>
          rw [hbb] at k1; simp at k1
          rw [← k1.2]
          exact hl _ _ k2.hp k4
    cases ex with
    | normal =>
      obtain ⟨rfl, k2⟩ := k2
      exact ⟨k5, fin k2 k1⟩
    | ret =>
      obtain ⟨rfl, k2⟩ := k2
      exact ⟨k5, fin k2 k1⟩
    | exit id => obtain ⟨rfl, k2⟩ := k2; simp at k1
    | panic ch => obtain ⟨v, x, rfl, k2⟩ := k2; simp at k1
    | goto l => exact k2.elim
    | outgrown => exact k2.elim
  have he2 : (a0.put (some t) x).eval (.tmp t) = x := by
    show (a0.tmps.setIfInBounds t x).getD t undef = x
    simp [Array.getD, hsz]
  have hx1 : ∀ ρ, (execOp ρ { dst := some t, op := .call { callee := .builtin .recover, args := #[], argTypes := #[] }, type := rt, pos := rp, after := raf, guard := none }).run P w = .ok .recover w := fun ρ => rfl
  have hx2 : ∀ ρ, (execOp ρ { dst := some d, op := .assign (.tmp t), type := at_, pos := ap, after := aaf, guard := none }).run P w = .ok (.value (ρ (.tmp t))) w := fun ρ => rfl
  show wpOpsS P _ _ [0, 1] a0 (c₀ :: cs) w
  have step1 : ∀ cs1, wpOpsS P #[{ dst := some t, op := .call { callee := .builtin .recover, args := #[], argTypes := #[] }, type := rt, pos := rp, after := raf, guard := none }, { dst := some d, op := .assign (.tmp t), type := at_, pos := ap, after := aaf, guard := none }] (Exit.thenS (c.wpS P (bodyPostS P fn c₀ cs (fun e u'' w' => (∃ y, e = .returned y) ∧ u'' = modeEnd b u ∧ ∃ o' sig', Gl W0 o' w' ∧ RelH o' sig' H' w' ∧ Step o w o' w' ∧ SigExt sig sig')))
      (bodyPostS P fn c₀ cs (fun e u'' w' => (∃ y, e = .returned y) ∧ u'' = modeEnd b u ∧ ∃ o' sig', Gl W0 o' w' ∧ RelH o' sig' H' w' ∧ Step o w o' w' ∧ SigExt sig sig'))) [1] (a0.put (some t) x) cs1 w = Exit.thenS (c.wpS P (bodyPostS P fn c₀ cs (fun e u'' w' => (∃ y, e = .returned y) ∧ u'' = modeEnd b u ∧ ∃ o' sig', Gl W0 o' w' ∧ RelH o' sig' H' w' ∧ Step o w o' w' ∧ SigExt sig sig')))
      (bodyPostS P fn c₀ cs (fun e u'' w' => (∃ y, e = .returned y) ∧ u'' = modeEnd b u ∧ ∃ o' sig', Gl W0 o' w' ∧ RelH o' sig' H' w' ∧ Step o w o' w' ∧ SigExt sig sig')) .normal ((a0.put (some t) x).put (some d) x) cs1 w := by
    intro cs1
    simp only [wpOpsS, List.getElem?_toArray, List.getElem?_cons_succ, List.getElem?_cons_zero, Region.wanted, if_true, hx2, he2, Oper.upon]
  simp only [wpOpsS, List.getElem?_toArray, List.getElem?_cons_zero, Region.wanted, if_true, hx1]
  split
  · rename_i v cs1 hr1
    rw [hr1] at hrec
    simp only [Prod.mk.injEq] at hrec
    obtain ⟨rfl, rfl⟩ := hrec
    exact (step1 _).mpr key
  · rename_i hr1
    rw [hr1] at hrec
    simp only [Prod.mk.injEq] at hrec
    obtain ⟨rfl, rfl⟩ := hrec
    exact (step1 _).mpr key
end
end Go.PS
end

section
namespace Go.PS
open Go.RowKit
section
variable {P : Program} {C : Ctx} {W0 : World} {o : Own} {sig : List Nat} {st : St} {a : Act} {w : World} {R : Type} {tm : Array Value}

/-- code in a row -/
def seqs : List Code → Code → Code
  | [], c => c
  | a :: l, c => .seq a (seqs l c)

noncomputable def seqsK (C : Ctx) (L : Lps) : List Code → St → (Ex → St → Option R) → Option R
  | [], st, k => k .normal st
  | c :: l, st, k => pcodeK C L c st fun e st' => match e with
    | .normal => seqsK C L l st' k
    | e => k e st'

def dstsL : List Oper → List Nat
  | [] => []
  | o :: l => match o.dst with
    | some t => t :: dstsL l
    | none => dstsL l

/-- of slots the pointers alone, but for some -/
def keepPtr (ts : List Nat) : Nat → List PV → List PV
  | _, [] => []
  | i, v :: l => (match v with | .ptr id off => bif memN i ts then .undef else .ptr id off | _ => .undef) :: keepPtr ts (i + 1) l

theorem keepPtr_length (ts : List Nat) : ∀ (l : List PV) (i : Nat), (keepPtr ts i l).length = l.length
  | [], _ => rfl
  | _ :: l, i => by simp [keepPtr, keepPtr_length ts l (i + 1)]

theorem keepPtr_get (ts : List Nat) : ∀ (l : List PV) (i j : Nat), gt .undef (keepPtr ts i l) j = .undef ∨ (memN (i + j) ts = false ∧ ∃ id off, gt .undef l j = .ptr id off ∧ gt .undef (keepPtr ts i l) j = .ptr id off)
  | [], _, _ => .inl rfl
  | v :: l, i, 0 => by
    show (match v with | .ptr id off => bif memN i ts then PV.undef else .ptr id off | _ => .undef) = .undef ∨ (memN (i + 0) ts = false ∧ ∃ id off, v = .ptr id off ∧ (match v with | .ptr id off => bif memN i ts then PV.undef else .ptr id off | _ => .undef) = .ptr id off)
    cases v with
    | ptr id off =>
      cases hb : memN i ts with
      | true => exact .inl rfl
      | false => exact .inr ⟨by simp [hb], id, off, rfl, rfl⟩
    | _ => exact .inl rfl
  | v :: l, i, j + 1 => by
    have := keepPtr_get ts l (i + 1) j
    rw [show i + 1 + j = i + (j + 1) by omega] at this
    exact this

noncomputable def endK (C : Ctx) (m : Nat) (rs : List ResultVar) (Sd : SD) (md : Option DV) (caps : List PV) (st : St) : Option (Out × List PObj) :=
  match Sd md caps st.heap with
  | some (b, H') => match md with
    | none => retK C m rs ⟨st.slots, H'⟩
    | some v => bif b then retK C m rs ⟨st.slots, H'⟩ else panK m v H'
  | none => none

noncomputable def runDE (C : Ctx) (L : Lps) (n : Nat) (rs : List ResultVar) (pre : List Code) (mk : Oper) (t : Nat) (fd : FuncId) (B : Code) (Sd : SD) (args : List PV) (H : List PObj) : Option (Out × List PObj) :=
  match argsE args with
  | some vs => seqsK C L pre ⟨vs ++ rep (n - args.length) .undef, H⟩ fun e st => match e with
    | .ret => retK C H.length rs st
    | .pan v => panK H.length v st.heap
    | .exit _ => none
    | .normal => popK C noSy mk st (fun _ _ => none) fun st1 => match gt .undef st1.slots t with
      | .func f caps => bif Nat.beq f fd then pcodeK C L B st1 (fun e st2 => match e with
          | .normal | .ret => endK C H.length rs Sd none caps ⟨keepPtr [] 0 st2.slots, st2.heap⟩
          | .pan v => endK C H.length rs Sd (some v) caps ⟨keepPtr (dstsL (opsOf B)) 0 st1.slots, st2.heap⟩
          | .exit _ => none) else none
      | _ => none
  | none => none

theorem mem_dstsL {l : List Oper} {op : Oper} (h : op ∈ l) {t : Nat} (ht : op.dst = some t) : t ∈ dstsL l := by
  induction l with
  | nil => simp at h
  | cons q l ih =>
    rcases List.mem_cons.1 h with rfl | h
    · simp only [dstsL, ht]; exact List.mem_cons_self ..
    · simp only [dstsL]
      split
      · exact List.mem_cons_of_mem _ (ih h)
      · exact ih h

/-- of a state the pointers alone -/
theorem Rel.ptrs {o1 : Own} {sig1 : List Nat} {w1 : World} {tm1 : Array Value} {h1 : List PObj} (ts : List Nat) (hr : Rel W0 o sig st tm w) (hg : Gl W0 o1 w1) (hh : RelH o1 sig1 h1 w1) (hse : SigExt sig sig1)
    (hsz : tm.size = tm1.size) (htm : ∀ j, memN j ts = false → tm1.getD j undef = tm.getD j undef) : Rel W0 (rel inw o1) sig1 ⟨keepPtr ts 0 st.slots, h1⟩ tm1 w1 where
  gl := hg.relabel inw
  len := by show (keepPtr ts 0 st.slots).length ≤ _; rw [keepPtr_length, ← hsz]; exact hr.len
  slot j := by
    show PEnc _ _ _ (gt .undef (keepPtr ts 0 st.slots) j) _
    rcases keepPtr_get ts st.slots 0 j with h | ⟨hm, id, off, h1, h2⟩
    · rw [h]; exact .undef
    · rw [h2, htm j (by simpa using hm)]
      have := hr.slot j
      rw [h1] at this
      obtain ⟨b, e1, e2⟩ := this.ptr_inv
      rw [e2]
      exact .ptr (hse _ _ e1)
  cap j k := by
    refine Cap.of_noOwn ?_
    show (cmpV (gt .undef (keepPtr ts 0 st.slots) j) k).noOwn
    rcases keepPtr_get ts st.slots 0 j with h | ⟨_, id, off, _, h2⟩
    · rw [h]; unfold cmpV; dsimp only; split <;> trivial
    · rw [h2]; unfold cmpV; dsimp only; split <;> trivial
  hp := hh.relabel inw (fun _ => rfl) fun _ _ _ _ _ _ => rfl

theorem Rel.ptrs2 {ts : List Nat} {sl : List PV} {h1 h2 : List PObj} {o2 : Own} {sig2 : List Nat} {w2 : World} (hr : Rel W0 o sig ⟨keepPtr ts 0 sl, h1⟩ tm w) (hg : Gl W0 o2 w2) (hh : RelH o2 sig2 h2 w2) (hse : SigExt sig sig2) :
    Rel W0 o2 sig2 ⟨keepPtr ts 0 sl, h2⟩ tm w2 where
  gl := hg
  len := hr.len
  slot j := by
    show PEnc _ _ _ (gt .undef (keepPtr ts 0 sl) j) _
    rcases keepPtr_get ts sl 0 j with h | ⟨hm, id, off, h1, h2⟩
    · rw [h]; exact .undef
    · have := hr.slot j
      have this : PEnc o w sig (gt .undef (keepPtr ts 0 sl) j) (tm.getD j undef) := this
      rw [h2] at this ⊢
      obtain ⟨b, e1, e2⟩ := this.ptr_inv
      rw [e2]
      exact .ptr (hse _ _ e1)
  cap j k := by
    refine Cap.of_noOwn ?_
    show (cmpV (gt .undef (keepPtr ts 0 sl) j) k).noOwn
    rcases keepPtr_get ts sl 0 j with h | ⟨_, id, off, _, h2⟩
    · rw [h]; unfold cmpV; dsimp only; split <;> trivial
    · rw [h2]; unfold cmpV; dsimp only; split <;> trivial
  hp := hh

/-- the end of a function that has deferred a call -/
theorem endK_sound (hC : TyOk P C) {fn : Func} (hnd : nodupN (tmpsOf fn.results.toList) = true) {fd : FuncId} {Sd : SD} (hS : SoundD P W0 fd Sd) {H H' : List PObj} {out : Out} {o1 : Own} {sig1 : List Nat} {w1 : World} {a1 : Act} {md : Option DV} {u : FrameMode} {caps : List PV} {xs : List Value}
    {ts : List Nat} {sl : List PV} {h1 : List PObj}
    (hg : Gl W0 o w) (hl : sig.length = H.length) (hr : Rel W0 o1 sig1 ⟨keepPtr ts 0 sl, h1⟩ a1.tmps w1) (hst : Step (rel inw o) w o1 w1) (hse : SigExt sig sig1) (hcaps : PEncL o1 w1 sig1 caps xs) (hu : ModeIs o1 w1 md u)
    (h : endK C H.length fn.results.toList Sd md caps ⟨keepPtr ts 0 sl, h1⟩ = some (out, H')) :
    Leaves P fn a1.tmps (Post W0 o sig w out H') [{ target := .fn (.func fd) xs.toArray, args := #[] }] u w1 := by
  unfold endK at h
  split at h
  rotate_left
  · simp at h
  rename_i b H2 hb
  refine leaves_cons (f := fd) (args := xs.toArray) ?_ ?_ ((hS.calls _ _ _ _ _ hb o1 sig1 w1 xs u hr.gl hr.hp hcaps hu).mono ?_)
  · cases md with
    | none => have hu : u = .returning := hu; rw [hu]; simp
    | some v => obtain ⟨x, _, hu⟩ := hu; rw [hu]; simp
  · have : (#[] : Array Value) ++ xs.toArray = xs.toArray := by simp
    show (callFunc fd (#[] ++ xs.toArray)).run P w1 = _
    rw [hS.enters, this]
  · rintro e u' w2 ⟨⟨y, rfl⟩, rfl, o2, sig2, g1, g2, g3, g4⟩
    have hr2 := hr.ptrs2 g1 g2 g4
    have hret : retK C H.length fn.results.toList ⟨keepPtr ts 0 sl, H2⟩ = some (out, H') → Leaves P fn a1.tmps (Post W0 o sig w out H') [] .returning w2 := by
      intro hk
      obtain ⟨z, e1, e2⟩ := ret_post hC hnd hg hl hr2 (hst.trans g3) (hse.trans g4) hk
      exact ⟨z, e1, e2⟩
    cases md with
    | none =>
      have hu : u = .returning := hu
      subst hu
      exact hret h
    | some v =>
      obtain ⟨x, hx, rfl⟩ := hu
      cases b with
      | true => exact hret h
      | false =>
        simp only [cond_false] at h
        exact pan_post hg hl g1 g2 (hx.mono g3.stab) (hst.trans g3) (hse.trans g4) h

theorem seqs_loops : ∀ (pre : List Code) (c : Code), (∀ x ∈ pre, ∀ y ∈ loopsOf x, y ∈ loopsOf (seqs pre c)) ∧ ∀ y ∈ loopsOf c, y ∈ loopsOf (seqs pre c)
  | [], c => ⟨fun x hx => by simp at hx, fun y hy => hy⟩
  | a :: l, c => by
    obtain ⟨h1, h2⟩ := seqs_loops l c
    refine ⟨fun x hx y hy => ?_, fun y hy => ?_⟩
    · simp only [seqs, loopsOf, List.mem_append]
      rcases List.mem_cons.1 hx with rfl | hx
      · exact .inl hy
      · exact .inr (h1 x hx y hy)
    · simp only [seqs, loopsOf, List.mem_append]
      exact .inr (h2 y hy)

theorem seqs_wp (hC : TyOk P C) (hE : EnvOk P W0 C) (hm : P.follows .mixedOrders = true) {L : Lps} {r : R} : ∀ (pre : List Code) {c : Code} {st : St} {a : Act} {o : Own} {sig : List Nat} {w : World} {K : Ex → St → Option R} {Q : Exit → Act → World → Prop},
    (∀ x ∈ pre, LpsOk C L (loopsOf x)) → Rel W0 o sig st a.tmps w → a.defers = [] →
    (∀ e st' o' sig' a' w' x, K e st' = some r → Exits W0 e o' sig' st' a' w' x → Step o w o' w' → SigExt sig sig' → a'.defers = [] → x ≠ .normal → Q x a' w') →
    (∀ st' o' sig' a' w', K .normal st' = some r → Rel W0 o' sig' st' a'.tmps w' → Step o w o' w' → SigExt sig sig' → a'.defers = [] → c.wp P Q a' w') →
    seqsK C L pre st K = some r → (seqs pre c).wp P Q a w := by
  intro pre
  induction pre with
  | nil => intro c st a o sig w K Q hL hr hd hQ hn h; exact hn _ _ _ _ _ h hr (.refl _ _) (.refl _) hd
  | cons x pre ih =>
    intro c st a o sig w K Q hL hr hd hQ hn h
    simp only [seqsK] at h
    refine wp_seq (pcodeK_sound (ds := []) hC hE hm x (hL x (List.mem_cons_self ..)) hr hd ?_ h)
    intro e st' o' sig' a' w' ex h1 h2 h3 h4 h5
    cases ex with
    | normal =>
      obtain ⟨rfl, h2⟩ := h2
      exact ih (fun y hy => hL y (List.mem_cons_of_mem _ hy)) h2 h5 (fun e2 st2 o2 sig2 a2 w2 x2 k1 k2 k3 k4 k5 k6 => hQ e2 st2 o2 sig2 a2 w2 x2 k1 k2 (h3.trans k3) (h4.trans k4) k5 k6)
        (fun st2 o2 sig2 a2 w2 k1 k2 k3 k4 k5 => hn st2 o2 sig2 a2 w2 k1 k2 (h3.trans k3) (h4.trans k4) k5) h1
    | exit id => obtain ⟨rfl, h2⟩ := h2; exact hQ _ _ _ _ _ _ (.exit id) h1 ⟨rfl, h2⟩ h3 h4 h5 (by simp)
    | ret => obtain ⟨rfl, h2⟩ := h2; exact hQ _ _ _ _ _ _ .ret h1 ⟨rfl, h2⟩ h3 h4 h5 (by simp)
    | panic ch =>
      obtain ⟨v, x, rfl, h2⟩ := h2
      exact hQ _ _ _ _ _ _ (.panic ch) h1 ⟨v, x, rfl, h2⟩ h3 h4 h5 (by simp)
    | goto l => exact h2.elim
    | outgrown => exact h2.elim

theorem sound_of_defers (hC : TyOk P C) (hE : EnvOk P W0 C) (hm : P.follows .mixedOrders = true) {f : FuncId} {fn : Func} (hf : P.funcs[f]? = some fn) {pre : List Code} {id t : Nat} {fd : FuncId} {mk dp : Oper} {B : Code}
    (hb : fn.body = some (seqs pre (.seq (.region id #[mk, dp] false) B))) (hn : (fn.name == "runtime.NumGoroutine") = false)
    (hnd : nodupN (tmpsOf fn.results.toList) = true) (m1 : mk.guard = none) (d1 : dp.op = .defer { callee := .value (.tmp t), args := #[], argTypes := #[] }) (d2 : dp.dst = none) (d3 : dp.guard = none)
    {L : Lps} (hL : LpsOk C L (loopsOf (seqs pre (.seq (.region id #[mk, dp] false) B)))) {Sd : SD} (hS : SoundD P W0 fd Sd) {S : List PV → List PObj → Option (Out × List PObj)}
    (h : ∀ args H r, S args H = some r → runDE C L fn.ntmps fn.results.toList pre mk t fd B Sd args H = some r) : Sound P W0 f S := by
  refine ⟨enters_of hf hb hn, ?_⟩
  intro args H out H' hs o sig w xs hg hh hx
  have h := h args H _ hs
  unfold runDE at h
  split at h
  rotate_left
  · simp at h
  rename_i us hus
  obtain ⟨hLp, hLB⟩ := seqs_loops pre (.seq (.region id #[mk, dp] false) B)
  refine calls_of_wp_defers hf hb ?_
  refine seqs_wp (a := { tmps := (xs.toArray ++ Array.replicate (fn.ntmps - xs.toArray.size) undef), defers := [] }) hC hE hm pre (fun x hx => hL.sub (hLp x hx)) (enter_rel hg hh hx hus) rfl ?_ ?_ h
  · intro e st' o' sig' a' w' ex k1 k2 k3 k4 k5 k6
    cases ex with
    | normal => exact absurd rfl k6
    | ret =>
      obtain ⟨rfl, k2⟩ := k2
      obtain ⟨y, e1, e2⟩ := ret_post hC hnd hg hh.sigl k2 k3 k4 k1
      show Leaves P fn a'.tmps _ a'.defers .returning w'
      rw [k5]
      exact ⟨y, e1, e2⟩
    | exit id => obtain ⟨rfl, k2⟩ := k2; simp at k1
    | panic ch =>
      obtain ⟨v, x, rfl, e2, e3, e4, rfl⟩ := k2
      show Leaves P fn a'.tmps _ a'.defers (.panicking _) w'
      rw [k5]
      exact pan_post hg hh.sigl e4 e3 e2 k3 k4 k1
    | goto l => exact k2.elim
    | outgrown => exact k2.elim
  · intro st1 o1 sig1 a1 w1 k1 hr1 hs1 he1 hd1
    dsimp only at k1
    refine wp_seq (wp_region_list ?_)
    show wpList P #[mk, dp] _ [mk, dp] a1 w1
    unfold wpList
    have hw1 : Region.wanted mk (yielded #[mk, dp] a1.tmps) = true := by unfold Region.wanted; rw [m1]
    rw [hw1, if_pos rfl]
    refine .inl (popK_wp hC hE hr1 .nil ⟨?_, fun v x hp' o' sig' w' k => by simp at k⟩ k1)
    intro x st2 o2 sig2 w2 k2 hr2 hs2 he2
    unfold wpList
    have hw2 : Region.wanted dp (yielded #[mk, dp] (a1.put mk.dst x).tmps) = true := by unfold Region.wanted; rw [d3]
    rw [hw2, if_pos rfl]
    refine .inl ?_
    split at k2
    rotate_left
    · simp at k2
    rename_i f' caps hcl
    cases hfd : Nat.beq f' fd with
    | false => rw [hfd] at k2; simp at k2
    | true =>
    rw [hfd] at k2
    simp only [cond_true] at k2
    have hfd := Nat.eq_of_beq_eq_true hfd
    subst hfd
    have hcv := hr2.slot t
    rw [hcl] at hcv
    obtain ⟨ys, hcx, hcaps⟩ := hcv.func_inv
    generalize ha2 : a1.put mk.dst x = a2 at hr2 hcx
    have hd2 : a2.defers = [] := by rw [← ha2, put_defers]; exact hd1
    have hrun : (execOp a2.eval dp).run P w2 = .ok (.defer { target := .fn (.func f') ys.toArray, args := #[] }) w2 := by
      obtain ⟨pd, po, pt, pp, pa, pg⟩ := dp
      dsimp only at d1
      subst d1
      have : a2.eval (.tmp t) = .func (.func f') #[] ys.toArray := hcx
      simp [execOp, resolve, this, Deferred.ofValue]
    unfold Oper.wp
    rw [hrun, Oper.upon_defer, d2]
    unfold wpList
    show B.wp P _ { a2 with defers := { target := .fn (.func f') ys.toArray, args := #[] } :: a2.defers } w2
    rw [hd2]
    let d : Deferred := { target := .fn (.func f') ys.toArray, args := #[] }
    refine pcodeK_inv (I := fun b => b.defers = [d] ∧ a2.tmps.size = b.tmps.size ∧ ∀ j, memN j (dstsL (opsOf B)) = false → b.tmps.getD j undef = a2.tmps.getD j undef) hC hE hm B (hL.sub fun y hy => hLB y (by simpa [loopsOf] using hy)) ?_ hr2 ⟨rfl, rfl, fun _ _ => rfl⟩ ?_ k2
    · rintro op hop b y ⟨i1, i2, i3⟩
      refine ⟨by rw [put_defers]; exact i1, ?_, fun j hj => ?_⟩
      · cases op.dst with
        | none => exact i2
        | some q => show _ = (b.tmps.setIfInBounds q y).size; simpa using i2
      · cases hq : op.dst with
        | none => exact i3 j hj
        | some q =>
          have hm := mem_dstsL hop hq
          have hne : q ≠ j := by
            rintro rfl
            rw [memN_iff.2 hm] at hj; simp at hj
          show (b.tmps.setIfInBounds q y).getD j undef = _
          rw [← i3 j hj]
          simp only [Array.getD_eq_getD_getElem?, Array.getElem?_setIfInBounds, if_neg hne]
    · intro e st3 o3 sig3 a3 w3 ex q1 q2 q3 q4 q5
      obtain ⟨q5, q6, q7⟩ := q5
      have hst3 : Step (rel inw o) w o3 w3 := (hs1.trans hs2).trans q3
      have hse3 : SigExt sig sig3 := (he1.trans he2).trans q4
      have hcaps3 : PEncL (rel inw o3) w3 sig3 caps ys := (hcaps.mono q3.stab q4).mono (fun _ _ _ h => rel_stab h) fun _ _ h => h
      have ret : Rel W0 o3 sig3 st3 a3.tmps w3 → endK C H.length fn.results.toList Sd none caps ⟨keepPtr [] 0 st3.slots, st3.heap⟩ = some (out, H') → Leaves P fn a3.tmps (Post W0 o sig w out H') a3.defers .returning w3 := by
        intro q2 q1
        rw [q5]
        exact endK_sound hC hnd hS hg hh.sigl (q2.ptrs [] q2.gl q2.hp (.refl _) rfl fun _ _ => rfl) (hst3.relR rfl) hse3 hcaps3 (md := none) (show ModeIs _ _ none .returning from rfl) q1
      cases ex with
      | normal => obtain ⟨rfl, q2⟩ := q2; exact ret q2 q1
      | ret => obtain ⟨rfl, q2⟩ := q2; exact ret q2 q1
      | exit id => obtain ⟨rfl, q2⟩ := q2; simp at q1
      | panic ch =>
        obtain ⟨v, x, rfl, e2, e3, e4, rfl⟩ := q2
        show Leaves P fn a3.tmps _ a3.defers (.panicking _) w3
        rw [q5]
        exact endK_sound hC hnd hS hg hh.sigl (hr2.ptrs _ e4 e3 q4 q6 q7) (hst3.relR rfl) hse3 hcaps3 (md := some v) (show ModeIs _ _ (some v) _ from ⟨x, e2.mono fun _ _ _ h => rel_stab h, rfl⟩) q1
      | goto l => exact q2.elim
      | outgrown => exact q2.elim
end
end Go.PS
end

section
namespace Go.PS
open Go.RowKit
section
variable {P : Program} {C : Ctx} {W0 : World}
def hdS : Code → Code
  | .seq a _ => a
  | c => c
def tlS : Code → Code
  | .seq _ b => b
  | _ => .skip
def dropC : Nat → Code → Code
  | 0, c => c
  | n + 1, c => dropC n (tlS c)
def headsC : Nat → Code → List Code
  | 0, _ => []
  | n + 1, c => hdS c :: headsC n (tlS c)
def opAt (c : Code) (i : Nat) : Oper :=
  match c with
  | .region _ ops _ => gt default ops.toList i
  | _ => default
def idOf : Code → Nat
  | .region id _ _ => id
  | _ => 0

/-- the facts of a function that defers a call at one place -/
structure DfOk (c : Code) (k t : Nat) : Prop where
  ceq : c = seqs (headsC k c) (.seq (.region (idOf (hdS (dropC k c))) #[opAt (hdS (dropC k c)) 0, opAt (hdS (dropC k c)) 1] false) (tlS (dropC k c)))
  m1 : (opAt (hdS (dropC k c)) 0).guard = none
  d1 : (opAt (hdS (dropC k c)) 1).op = .defer { callee := .value (.tmp t), args := #[], argTypes := #[] }
  d2 : (opAt (hdS (dropC k c)) 1).dst = none
  d3 : (opAt (hdS (dropC k c)) 1).guard = none

theorem effD_of (hC : TyOk P C) (hE : EnvOk P W0 C) (hm : P.follows .mixedOrders = true) {f : FuncId} {n : Nat} {rs : List ResultVar} {c : Code} (hf : FnOk P f n rs c) {L : Lps} (hL : LpsOk C L (loopsOf c)) {k t : Nat} (hd : DfOk c k t) {fd : FuncId} {Sd : SD} (hS : SoundD P W0 fd Sd)
    {S : List PV → List PObj → Tr (Out × List PObj)} (h : ∀ args H r, (S args H).val = some r → runDE C L n rs (headsC k c) (opAt (hdS (dropC k c)) 0) t fd (tlS (dropC k c)) Sd args H = some r) : EKOk P W0 f (.eff (PS.frameT S)) := by
  obtain ⟨fn, h1, h2, h3, rfl, rfl, h6⟩ := hf.ex
  obtain ⟨e, m1, d1, d2, d3⟩ := hd
  exact Sound.frameT (sound_of_defers hC hE hm h1 (h2.trans (congrArg some e)) h3 h6 m1 d1 d2 d3 (by rw [← e]; exact hL) hS h)

/-- the facts of a deferred function that asks first for what runs up the stack -/
structure RcOk (P : Program) (f : FuncId) (n t d : Nat) (c : Code) : Prop where
  ex : ∃ fn : Func, P.funcs[f]? = some fn ∧ fn.body = some c ∧ (fn.name == "runtime.NumGoroutine") = false ∧ fn.ntmps = n ∧ fn.results = #[]
  ceq : c = .seq (.region (idOf (hdS c)) #[opAt (hdS c) 0, opAt (hdS c) 1] false) (tlS c)
  r1 : (opAt (hdS c) 0).op = .call { callee := .builtin .recover, args := #[], argTypes := #[] }
  r2 : (opAt (hdS c) 0).dst = some t
  r3 : (opAt (hdS c) 0).guard = none
  a1 : (opAt (hdS c) 1).op = .assign (.tmp t)
  a2 : (opAt (hdS c) 1).dst = some d
  a3 : (opAt (hdS c) 1).guard = none
  lt : t < n

theorem recov_of (hC : TyOk P C) (hE : EnvOk P W0 C) (hm : P.follows .mixedOrders = true) {f : FuncId} {n t d : Nat} {c : Code} (hf : RcOk P f n t d c) {L : Lps} (hL : LpsOk C L (loopsOf (tlS c)))
    {S : SD} (h : ∀ m args H r, S m args H = some r → runR C L n t d (tlS c) m args H = some r) : SoundD P W0 f S := by
  obtain ⟨⟨fn, h1, h2, h3, rfl, h5⟩, e, r1, r2, r3, a1, a2, a3, lt⟩ := hf
  exact soundD_of hC hE hm h1 (h2.trans (congrArg some e)) h3 h5 r1 r2 r3 a1 a2 a3 lt hL h

/-- a deferred function's contract, in a frame -/
noncomputable def frameD (S : SD) : SD := fun md args H =>
  match PS.frame (fun a h => (S md a h).map fun p => (.ret (.d (.bool p.1)), p.2)) args H with
  | some (.ret (.d (.bool b)), H') => some (b, H')
  | _ => none

theorem SoundD.frame {f : FuncId} {S : SD} (hS : SoundD P W0 f S) : SoundD P W0 f (frameD S) := by
  refine ⟨hS.enters, ?_⟩
  intro m args H b H' hs o sig w xs u hg hh hx hu
  unfold frameD at hs
  split at hs
  rotate_left
  · simp at hs
  rename_i b' H'' hf
  simp only [Option.some.injEq, Prod.mk.injEq] at hs
  obtain ⟨rfl, rfl⟩ := hs
  obtain ⟨as, H1, out2, H2, o1, sig1, h1, h2, h3, h4, h6, h5⟩ := frame_core (visit 200 H [] args) hf hg hh hx
  rw [Option.map_eq_some_iff] at h1
  obtain ⟨⟨b2, H3⟩, e1, e2⟩ := h1
  simp only [Prod.mk.injEq] at e2
  obtain ⟨rfl, rfl⟩ := e2
  have hu1 : ModeIs o1 w m u := by
    cases m with
    | none => exact hu
    | some v => obtain ⟨x, hx, hu⟩ := hu; exact ⟨x, hx.mono h6, hu⟩
  refine (hS.calls m as H1 b2 H3 e1 o1 sig1 w xs u h2 h3 h4 hu1).mono ?_
  rintro e u' w' ⟨hy, rfl, o', sig', g1, g2, g3, g4⟩
  have hp := h5 (.returned (.bool b2)) w' ⟨o', sig', g1, g2, g3, g4, .d (.bool b2), fun k => by unfold cmpV; dsimp only; split <;> exact Cap.of_noOwn trivial⟩
  obtain ⟨o2, sig2, k1, k2, k3, k4, k5, _⟩ := hp
  have hb : b2 = b' := by
    cases k5 with | d k5 => cases k5; rfl
  subst hb
  exact ⟨hy, rfl, o2, sig2, k1, k2, k3, k4⟩
end
end Go.PS
end
