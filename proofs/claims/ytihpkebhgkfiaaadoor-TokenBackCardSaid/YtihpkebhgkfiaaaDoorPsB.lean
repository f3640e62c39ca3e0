/- A part of the proof of the claim (the pure semantics PS and the contracts of the functions over it). -/
import Derived.Test.YtihpkebhgkfiaaaDoorPsA
import Derived.Orders
set_option linter.all false
section
namespace Go.PS
open Go.RowKit
section
variable {P : Program} {C : Ctx} {st st' : St} {R : Type} {op : Op} {k : PV → Option R}

/-- the same values of operands -/
def SameOn (st st' : St) (l : List Operand) : Prop := ∀ x ∈ l, ev st' x = ev st x

theorem partsOf_ext : ∀ {l : List (Nat × Operand)}, SameOn st st' (l.map (·.2)) → partsOf st' l = partsOf st l := by
  intro l
  induction l with
  | nil => intro _; rfl
  | cons p l ih =>
    intro h
    obtain ⟨i, x⟩ := p
    simp only [partsOf]
    rw [h x (by simp), ih fun y hy => h y (by simp at hy ⊢; exact .inr hy)]

theorem evs_ext : ∀ {l : List Operand}, SameOn st st' l → evs st' l = evs st l := by
  intro l
  induction l with
  | nil => intro _; rfl
  | cons x l ih =>
    intro h
    simp only [evs]
    rw [h x (by simp), ih fun y hy => h y (List.mem_cons_of_mem _ hy)]

theorem boundK_ext {x : Option Operand} {d : Nat} {k : Int → Option R} (h : SameOn st st' x.toList) : boundK st' x d k = boundK st x d k := by
  cases x with
  | none => rfl
  | some x => simp only [boundK]; rw [h x (by simp)]

theorem sliceK_ext {t : TypeId} {x : PV} {lo hi : Option Operand} (h1 : SameOn st st' lo.toList) (h2 : SameOn st st' hi.toList) : sliceK C t st' x lo hi k = sliceK C t st x lo hi k := by
  unfold sliceK
  split
  · rw [boundK_ext h1]; congr 1; funext l; rw [boundK_ext h2]
  · rw [boundK_ext h1]; congr 1; funext l; rw [boundK_ext h2]
  · rfl

theorem pureK_ext (h : SameOn st st' op.operands.toList) : pureK C op st' k = pureK C op st k := by
  cases op with
  | move x => simp only [pureK]; rw [h x (by simp [Op.operands])]
  | assign x => simp only [pureK]; rw [h x (by simp [Op.operands])]
  | pick c a b => simp only [pureK]; rw [h c (by simp [Op.operands]), h a (by simp [Op.operands]), h b (by simp [Op.operands])]
  | build t ps => simp only [pureK]; rw [partsOf_ext (l := ps.toList) (by simpa [Op.operands] using h)]
  | buildSlice t n ps => simp only [pureK]; rw [partsOf_ext (l := ps.toList) (by simpa [Op.operands] using h)]
  | nilCheck x => simp only [pureK]; rw [h x (by simp [Op.operands])]
  | binOp op t x y ty =>
    have hx := h x (by simp [Op.operands])
    have hy := h y (by simp [Op.operands])
    unfold pureK
    split <;> simp_all
  | unOp op t x => simp only [pureK]; rw [h x (by simp [Op.operands])]
  | convert s d x => simp only [pureK]; rw [h x (by simp [Op.operands])]
  | makeInterface t x => simp only [pureK]; rw [h x (by simp [Op.operands])]
  | makeFunc f first cap =>
    cases f with
    | func f =>
      simp only [pureK]
      cases hb : Nat.beq first.size 0
      · rfl
      · have : first = #[] := by
          have := Nat.eq_of_beq_eq_true hb
          exact Array.eq_empty_of_size_eq_zero this
        subst this
        rw [evs_ext (l := cap.toList) (by simpa [Op.operands] using h)]
    | _ => rfl
  | slice t x lo hi mx =>
    have hx := h x (by simp [Op.operands])
    have hlo : SameOn st st' lo.toList := fun y hy => h y (by simp [Op.operands] at hy ⊢; simp [hy])
    have hhi : SameOn st st' hi.toList := fun y hy => h y (by simp [Op.operands] at hy ⊢; simp [hy])
    cases mx with
    | none => simp only [pureK]; rw [hx, sliceK_ext hlo hhi]
    | some m =>
      have hm := h m (by simp [Op.operands])
      cases hi with
      | none => rfl
      | some y =>
        have hy := h y (by simp [Op.operands])
        simp only [pureK]
        rw [hx, hm, hy]
        simp only [sliceK_ext hlo hhi]
  | fieldAddr t x f => simp only [pureK]; rw [h x (by simp [Op.operands])]
  | field t x f => simp only [pureK]; rw [h x (by simp [Op.operands])]
  | indexAddr t x i => simp only [pureK]; rw [h x (by simp [Op.operands]), h i (by simp [Op.operands])]
  | index t x i => simp only [pureK]; rw [h x (by simp [Op.operands]), h i (by simp [Op.operands])]
  | call c =>
    obtain ⟨callee, args, ats⟩ := c
    cases callee with
    | builtin b =>
      have ha : SameOn st st' args.toList := by simpa [Op.operands, Call.operands] using h
      cases b <;> simp only [pureK] <;>
        first
        | rfl
        | (split
           · rename_i x hx
             rw [ha x (by rw [hx]; simp)]
           · rfl)
        | (split
           · rename_i x y hx
             rw [ha x (by rw [hx]; simp), ha y (by rw [hx]; simp)]
           · rfl)
    | _ => rfl
  | _ => rfl

end
end Go.PS
end

section
namespace Go.PS
open Go.RowKit
section
variable {P : Program} {C : Ctx} {st st' : St} {R : Type} {op : Op}

theorem cnd_bind {S : Type} (b : Bool) (x y : Option S) (k : S → Option R) : (cnd b x y).bind k = cnd b (x.bind k) (y.bind k) := by cases b <;> rfl
theorem chk_bind {S : Type} (b : Bool) (x : Option S) (k : S → Option R) : (chk b x).bind k = chk b (x.bind k) := by cases b <;> rfl
theorem bif_bind {S : Type} (b : Bool) (x y : Option S) (k : S → Option R) : (bif b then x else y).bind k = bif b then x.bind k else y.bind k := by cases b <;> rfl

theorem binK_nat (op : BinOp) (t : TypeId) (x y : DV) {S : Type} (f : DV → Option S) (k : S → Option R) : (binK C op t x y f).bind k = binK C op t x y fun v => (f v).bind k := by
  unfold binK
  (repeat' split) <;> simp only [chk_bind, bif_bind, Option.bind_none] <;> (try (repeat' split)) <;> (try rfl) <;> (try simp_all)

theorem unK_nat (op : UnOp) (x : DV) {S : Type} (f : DV → Option S) (k : S → Option R) : (unK op x f).bind k = unK op x fun v => (f v).bind k := by
  unfold unK
  split <;> rfl

theorem convK_nat (s d : TypeId) (x : DV) {S : Type} (f : DV → Option S) (k : S → Option R) : (convK C s d x f).bind k = convK C s d x fun v => (f v).bind k := by
  unfold convK
  (repeat' split) <;> simp only [chk_bind, Option.bind_none]

theorem boundK_nat (x : Option Operand) (d : Nat) {S : Type} (f : Int → Option S) (k : S → Option R) : (boundK st x d f).bind k = boundK st x d fun v => (f v).bind k := by
  unfold boundK
  (repeat' split) <;> rfl

theorem nth_nat (z l : List DV) (i : Nat) {S : Type} (f : List DV → Option S) (k : S → Option R) : (nth z l i f).bind k = nth z l i fun v => (f v).bind k := by
  unfold nth; simp only [chk_bind]
theorem nthB_nat (l : List UInt8) (i : Nat) {S : Type} (f : UInt8 → Option S) (k : S → Option R) : (nthB l i f).bind k = nthB l i fun v => (f v).bind k := by
  unfold nthB; simp only [chk_bind]

theorem sliceK_nat (t : TypeId) (x : PV) (lo hi : Option Operand) {S : Type} (f : PV → Option S) (k : S → Option R) : (sliceK C t st x lo hi f).bind k = sliceK C t st x lo hi fun v => (f v).bind k := by
  unfold sliceK
  split
  · simp only [boundK_nat, chk_bind]
  · simp only [boundK_nat, chk_bind, bif_bind, Option.bind_none]
  · rfl

theorem nilTest_nat (op : BinOp) (t : Bool) {S : Type} (f : PV → Option S) (k : S → Option R) : (nilTest op t f).bind k = nilTest op t fun v => (f v).bind k := by
  unfold nilTest
  split <;> rfl

theorem pureK_nat {S : Type} (f : PV → Option S) (k : S → Option R) : (pureK C op st f).bind k = pureK C op st fun v => (f v).bind k := by
  cases op with
  | pick c a b => simp only [pureK]; split <;> simp only [cnd_bind, Option.bind_none]
  | build t ps => simp only [pureK, bif_bind, Option.bind_none]; congr 1; (repeat' split) <;> rfl
  | buildSlice t n ps =>
    simp only [pureK]
    split
    · split
      · simp only [bif_bind, Option.bind_none]
      · rfl
    · rfl
  | nilCheck x => simp only [pureK]; split <;> rfl
  | binOp op t x y ty =>
    unfold pureK
    split <;> first
      | contradiction
      | (split
         · split <;> simp only [nilTest_nat, Option.bind_none]
         · rfl)
      | (split <;> simp only [binK_nat, Option.bind_none]; done)
      | rfl
  | unOp op t x => simp only [pureK]; split <;> simp only [unK_nat, Option.bind_none]
  | convert s d x => simp only [pureK]; split <;> simp only [convK_nat, Option.bind_none]
  | makeInterface t x => simp only [pureK]; (repeat' split) <;> rfl
  | makeFunc f first cap => cases f <;> simp only [pureK, bif_bind, Option.bind_none]
  | slice t x lo hi mx =>
    cases mx with
    | none => simp only [pureK, sliceK_nat]
    | some m =>
      cases hi with
      | none => rfl
      | some y => simp only [pureK]; split <;> simp only [chk_bind, sliceK_nat, Option.bind_none]
  | fieldAddr t x f => simp only [pureK]; split <;> simp only [bif_bind, Option.bind_none]; congr 1; split <;> rfl
  | field t x f => simp only [pureK]; split <;> simp only [bif_bind, Option.bind_none]; congr 1; split <;> simp only [bif_bind, Option.bind_none]; congr 1; split <;> rfl
  | indexAddr t x i => simp only [pureK]; split <;> (try split) <;> simp only [bif_bind, chk_bind, nth_nat, Option.bind_none]
  | index t x i =>
    simp only [pureK]
    split
    · simp only [bif_bind, chk_bind, nthB_nat, Option.bind_none]
    · split
      · simp only [bif_bind, chk_bind, Option.bind_none]; congr 2; split <;> rfl
      · rfl
    · rfl
  | call c =>
    obtain ⟨callee, args, ats⟩ := c
    cases callee with
    | builtin b =>
      cases b <;> simp only [pureK] <;>
        first
        | rfl
        | ((repeat' split) <;> simp only [bif_bind, Option.bind_none, Option.bind_some])
    | _ => rfl
  | _ => rfl

theorem takeNone {S : Type} (k : S → Option R) : (none : Option S).bind k = none := rfl

theorem pureK_bind (k : PV → Option R) : pureK C op st k = (pureK C op st some).bind k := by
  rw [pureK_nat]; rfl

end
end Go.PS
end

section
namespace Go.PS
open Go.RowKit
section
variable {P : Program} {C : Ctx} {st st' st1 : St} {R : Type} {oper : Oper} {kp : DV → List PObj → Option R} {k : St → Option R} {sy : Sy}

theorem heapCells_nat {S : Type} (h : List PObj) (id : Nat) (f : List PV → Option S) (k : S → Option R) : (heapCells h id f).bind k = heapCells h id fun v => (f v).bind k := by
  unfold heapCells; split <;> rfl

theorem loadCells_nat {S : Type} (T : TyI) (vs : List PV) (f : PV → Option S) (k : S → Option R) : (loadCells T vs f).bind k = loadCells T vs fun v => (f v).bind k := by
  unfold loadCells
  simp only [bif_bind, Option.bind_none]
  congr 2
  · split <;> rfl
  · split <;> simp only [bif_bind, Option.bind_none]

def pickBad (st : St) : Op → Bool
  | .pick _ a b => isTup (ev st a) || isTup (ev st b)
  | _ => false

/-- the value of an operation on slots and memory alone -/
def valV (C : Ctx) (o : Oper) (st : St) : Option PV :=
  match o.op with
  | .load t a => (match ev st a with
    | .ptr id off => heapCells st.heap id fun cs => loadCells (C.ty t) (dr cs off) some
    | .ro vs => loadCells (C.ty t) (dCells vs) some
    | _ => none)
  | .call { callee := .value f, args, .. } => (match (match ev st f with | .func f c => some (f, c) | _ => none) with
    | some (f, c) => (match C.env f with
      | some (.pure s) => (s (evs st args.toList ++ c)).val
      | _ => none)
    | _ => none)
  | .assign (.const v) => some (ofConstT (C.esz o.type) v)
  | op => bif pickBad st op then none else pureK C op st some

theorem sureV_pop (h : sureV C oper.op = true) : popK C sy oper st kp k = (valV C oper st).bind fun v => k (st.put oper.dst v) := by
  obtain ⟨dst, op, ty, pos, after, guard⟩ := oper
  cases op with
  | load t x =>
    simp only [popK, valV]
    cases ev st x <;> simp only [heapCells_nat, loadCells_nat, Option.bind_some, Option.bind_none]
  | call c =>
    obtain ⟨callee, args, ats⟩ := c
    cases callee with
    | builtin b =>
      cases b with
      | len =>
        simp only [popK, valV, pickBad, cond_false]
        rw [pureK_bind]
      | _ => simp [sureV, quiet] at h
    | value f =>
      cases f with
      | func f =>
        simp only [popK, valV, ev]
        simp only [sureV, pureCallee] at h
        split at h
        · rename_i s hs
          rw [hs]
          dsimp only
          rw [Tr.run_eq]
          cases (s (evs st args.toList ++ [])).val <;> rfl
        · simp at h
      | _ => simp [sureV, pureCallee] at h
    | _ => simp [sureV, quiet] at h
  | assign x =>
    cases x with
    | const v => rfl
    | _ => simp [sureV, quiet] at h
  | move x =>
    cases x with
    | const v =>
      simp only [popK, valV, pickBad, cond_false]
      rw [pureK_bind]
    | _ => simp [sureV, quiet] at h
  | pick c a b =>
    simp only [popK, valV, pickBad]
    cases (isTup (ev st a) || isTup (ev st b))
    · simp only [cond_false]; rw [pureK_bind]
    · rfl
  | _ =>
    first
    | (simp [sureV, quiet] at h; done)
    | (simp only [popK, valV, pickBad, cond_false]
       rw [pureK_bind])

/-- the operands are the same, and what is loaded from -/
def Agree (o : Oper) (st st' : St) : Prop := SameOn st st' o.op.operands.toList ∧ ∀ T a id off, o.op = .load T a → ev st a = .ptr id off → st'.heap[id]? = st.heap[id]?

theorem valV_ext (h : Agree oper st st') : valV C oper st' = valV C oper st := by
  obtain ⟨dst, op, ty, pos, after, guard⟩ := oper
  obtain ⟨h1, h2⟩ := h
  have pp : pickBad st' op = pickBad st op := by
    cases op <;> simp only [pickBad]
    rename_i c a b
    rw [h1 a (by simp [Op.operands]), h1 b (by simp [Op.operands])]
  cases op with
  | load t x =>
    simp only [valV]
    rw [h1 x (by simp [Op.operands])]
    cases hx : ev st x with
    | ptr id off =>
      dsimp only
      unfold heapCells
      rw [gt_some, gt_some, h2 t x id off rfl hx]
    | _ => rfl
  | call c =>
    obtain ⟨callee, args, ats⟩ := c
    cases callee with
    | value f =>
      simp only [valV]
      have hf := h1 f (by simp [Op.operands, Call.operands])
      have ha : SameOn st st' args.toList := fun y hy => h1 y (by simp [Op.operands, Call.operands]; exact .inr (by simpa using hy))
      rw [hf, evs_ext ha]
    | _ => simp only [valV]; rw [pp, pureK_ext h1]
  | assign x =>
    cases x with
    | const v => rfl
    | _ => simp only [valV]; rw [pp, pureK_ext h1]
  | _ => simp only [valV]; rw [pp, pureK_ext h1]

def effE (C : Ctx) (o : Oper) (st : St) : Option St := popK (R := St) C noSy o st (fun _ _ => none) some

theorem okOp_nat (h : okOp C oper.op = true) : popK C sy oper st kp k = (effE C oper st).bind k := by
  unfold effE
  by_cases hs : sureV C oper.op = true
  · rw [sureV_pop hs, sureV_pop hs]
    cases valV C oper st <;> rfl
  · obtain ⟨dst, op, ty, pos, after, guard⟩ := oper
    cases op with
    | move x =>
      cases x with
      | tmp t =>
        simp only [popK]
        split
        · rename_i vs _; cases calms vs <;> rfl
        · rfl
      | _ => simp [okOp, linV, sureV, quiet] at h hs
    | assign x =>
      cases x with
      | tmp t => simp only [popK]; split <;> rfl
      | _ => simp [okOp, linV, sureV, quiet] at h hs
    | extract x i =>
      cases x with
      | tmp t => simp only [popK]; split <;> (try split) <;> rfl
      | _ => simp [okOp, linV, sureV, quiet] at h hs
    | alloc t => simp only [popK]; cases (C.ty t).zero.isEmpty <;> rfl
    | store t x y =>
      unfold popK
      dsimp only
      split
      · rw [heapCells_nat]
        congr 1
        funext cs
        simp only [bif_bind, Option.bind_none]
        congr 2
        · congr 1
          split
          · split <;> rfl
          · simp only [bif_bind, Option.bind_none, Option.bind_some]
          · simp only [bif_bind, Option.bind_none, Option.bind_some]
        · split
          · simp only [bif_bind, Option.bind_none, Option.bind_some]
          · rfl
      · rfl
    | _ => simp_all [okOp, linV]

end
end Go.PS
end

section
namespace Go.PS
open Go.RowKit
section
variable {P : Program} {C : Ctx} {st st' st1 : St} {R : Type} {oper : Oper} {kp : DV → List PObj → Option R} {k : St → Option R} {sy : Sy}

theorem up_comm {α : Type} (l : List α) {i j : Nat} (h : i ≠ j) (x y : α) : up (up l i x) j y = up (up l j y) i x := by
  simp only [up_eq]
  exact List.set_comm _ _ h

theorem tmpsL_mem {t : Nat} : ∀ {l : List Operand}, .tmp t ∈ l → t ∈ tmpsL l := by
  intro l
  induction l with
  | nil => intro h; simp at h
  | cons x l ih =>
    intro h
    rcases List.mem_cons.1 h with e | e
    · subst e; simp [tmpsL]
    · cases x <;> simp only [tmpsL, List.mem_cons] <;> first | exact .inr (ih e) | exact ih e

theorem ev_set {d : Nat} {v : PV} {l : List Operand} (hd : d ∉ tmpsL l) : SameOn st (st.set d v) l := by
  intro x hx
  cases x with
  | tmp t =>
    have hne : t ≠ d := by rintro rfl; exact hd (tmpsL_mem hx)
    simp only [ev, St.set, gt_up]
    rw [if_neg]; rintro ⟨e, _⟩; exact hne e
  | _ => rfl

theorem agree_of {l : List Operand} (h : ∀ t ∈ tmpsL l, gt .undef st'.slots t = gt .undef st.slots t) : SameOn st st' l := by
  intro x hx
  cases x with
  | tmp t => exact h t (tmpsL_mem hx)
  | _ => rfl

theorem put_set {d : Nat} {v u : PV} {dst : Option Tmp} (h : dst ≠ some d) : (st.set d v).put dst u = (st.put dst u).set d v := by
  cases dst with
  | none => rfl
  | some t =>
    have : d ≠ t := by rintro rfl; exact h rfl
    simp only [St.put, St.set]
    rw [up_comm _ this]

theorem set_set {d t : Nat} {v u : PV} (h : t ≠ d) : (st.set d v).set t u = (st.set t u).set d v := by
  simp only [St.set]
  rw [up_comm _ (Ne.symm h)]

theorem gt_set {d t : Nat} {v : PV} (h : t ≠ d) : gt PV.undef (st.set d v).slots t = gt .undef st.slots t := by
  simp only [St.set, gt_up]
  rw [if_neg]; rintro ⟨e, _⟩; exact h e

theorem valV_set {d : Nat} {v : PV} (hd : d ∉ tmpsL oper.op.operands.toList) : valV C oper (st.set d v) = valV C oper st :=
  valV_ext ⟨ev_set hd, fun _ _ _ _ _ _ => rfl⟩

/-- an operation does not look at other slots -/
theorem effE_frame (h : okOp C oper.op = true) {d : Nat} {v : PV} (hd : d ∉ tmpsL oper.op.operands.toList) (hdst : oper.dst ≠ some d) : effE C oper (st.set d v) = (effE C oper st).map fun s => s.set d v := by
  by_cases hs : sureV C oper.op = true
  · unfold effE
    rw [sureV_pop hs, sureV_pop hs, valV_set hd]
    cases valV C oper st with
    | none => rfl
    | some u => simp only [Option.bind_some, Option.map_some]; rw [put_set hdst]
  · obtain ⟨dst, op, ty, pos, after, guard⟩ := oper
    have hdst : dst ≠ some d := hdst
    cases op with
    | move x =>
      cases x with
      | tmp t =>
        have hne : t ≠ d := by rintro rfl; exact hd (by simp [Op.operands, tmpsL])
        simp only [effE, popK, gt_set hne]
        split
        · rename_i vs _
          cases calms vs with
          | true => simp only [cond_true, Option.map_some]; rw [put_set hdst]
          | false => simp only [cond_false, Option.map_some]; rw [set_set hne, put_set hdst]
        · simp only [Option.map_some]; rw [put_set hdst]
      | _ => simp [okOp, linV, sureV, quiet] at h hs
    | assign x =>
      cases x with
      | tmp t =>
        have hne : t ≠ d := by rintro rfl; exact hd (by simp [Op.operands, tmpsL])
        simp only [effE, popK, gt_set hne]
        split
        · simp only [Option.map_some]; rw [set_set hne, put_set hdst]
        · rfl
        · simp only [Option.map_some]; rw [put_set hdst]
      | _ => simp [okOp, linV, sureV, quiet] at h hs
    | extract x i =>
      cases x with
      | tmp t =>
        have hne : t ≠ d := by rintro rfl; exact hd (by simp [Op.operands, tmpsL])
        simp only [effE, popK, gt_set hne]
        split
        · split
          · simp only [Option.map_some]; rw [set_set hne, put_set hdst]
          · rfl
          · rfl
          · simp only [Option.map_some]; rw [put_set hdst]
        · rfl
      | _ => simp [okOp, linV, sureV, quiet] at h hs
    | alloc t =>
      simp only [effE, popK]
      cases (C.ty t).zero.isEmpty
      · simp only [cond_false, Option.map_some]
        have := put_set (st := ⟨st.slots, st.heap ++ [.cells (toCells (C.ty t).zero)]⟩) (v := v) (u := .ptr st.heap.length 0) hdst
        rw [← this]; rfl
      · rfl
    | store t x y =>
      have hx := ev_set (st := st) (v := v) hd x (by simp [Op.operands])
      have hy := ev_set (st := st) (v := v) hd y (by simp [Op.operands])
      have pp : ∀ (s : St) (u : PV), (s.set d v).put dst u = (s.put dst u).set d v := fun s u => put_set hdst
      unfold effE popK
      dsimp only
      rw [hx]
      split
      · unfold heapCells
        have : (st.set d v).heap = st.heap := rfl
        rw [this]
        split
        · rename_i cs _
          rw [hy]
          cases Nat.beq (C.ty t).size 0
          · simp only [cond_false]
            cases isScalar (C.ty t).ty
            · simp only [cond_false]
              split
              · cases (Nat.beq _ (C.ty t).size && _)
                · rfl
                · simp only [cond_true, Option.map_some]
                  rw [← pp]; rfl
              · rfl
            · simp only [cond_true]
              cases (Nat.beq (C.ty t).size 1 && _)
              · rfl
              · simp only [cond_true]
                split
                · split
                  · rename_i u _
                    have hne : u ≠ d := by rintro rfl; exact hd (by cases x <;> simp [Op.operands, tmpsL])
                    simp only [Option.map_some]
                    rw [← pp]
                    simp only [St.set]
                    rw [up_comm _ (Ne.symm hne)]
                  · simp only [Option.map_some]; rw [← pp]; rfl
                · cases DV.scalar _
                  · rfl
                  · simp only [cond_true, Option.map_some]; rw [← pp]; rfl
                · cases PV.cellOk _
                  · rfl
                  · simp only [cond_true, Option.map_some]; rw [← pp]; rfl
          · rfl
        · rfl
      · rfl
    | _ => simp_all [okOp, linV]

end
end Go.PS
end

section
namespace Go.PS
open Go.RowKit
section
variable {P : Program} {C : Ctx} {st st' st1 : St} {R : Type} {oper : Oper} {kp : DV → List PObj → Option R} {k : St → Option R} {sy : Sy}

/-- what an operation may change -/
structure Chg (o : Oper) (st st1 : St) : Prop where
  len : st1.slots.length = st.slots.length
  slot : ∀ t, o.dst ≠ some t → (t ∈ linS o.op → calm (gt .undef st.slots t) = true) → gt PV.undef st1.slots t = gt .undef st.slots t
  hlen : st.heap.length ≤ st1.heap.length
  heap : (∀ (id : Nat) ob, st.heap[id]? = some ob → st1.heap[id]? = some ob) ∨ ∃ (T : TypeId) (x y : Operand) (id off : Nat), o.op = .store T x y ∧ ev st x = .ptr id off ∧ ∀ id' : Nat, id' ≠ id → st1.heap[id']? = st.heap[id']?
  hleq : (∀ T, o.op ≠ .alloc T) → st1.heap.length = st.heap.length

theorem put_len (dst : Option Tmp) (v : PV) : (st.put dst v).slots.length = st.slots.length := by
  cases dst <;> simp [St.put, St.set]

theorem gt_put {dst : Option Tmp} {v : PV} {t : Nat} (h : dst ≠ some t) : gt PV.undef (st.put dst v).slots t = gt .undef st.slots t := by
  cases dst with
  | none => rfl
  | some d => exact gt_set (by rintro rfl; exact h rfl)

theorem put_heap (dst : Option Tmp) (v : PV) : (st.put dst v).heap = st.heap := by cases dst <;> rfl

theorem Chg.put (v : PV) : Chg oper st (st.put oper.dst v) :=
  ⟨put_len _ _, fun _ h _ => gt_put h, by rw [put_heap]; exact Nat.le_refl _, .inl fun id ob h => by rw [put_heap]; exact h, fun _ => by rw [put_heap]⟩

theorem Chg.setPut {t : Nat} {u v : PV} (hl : t ∈ linS oper.op) (hc : calm (gt .undef st.slots t) = false) : Chg oper st ((st.set t u).put oper.dst v) := by
  refine ⟨by rw [put_len]; simp [St.set], fun s h1 h2 => ?_, by rw [put_heap]; exact Nat.le_refl _, .inl fun id ob h => by rw [put_heap]; exact h, fun _ => by rw [put_heap]; rfl⟩
  rw [gt_put h1]
  have : s ≠ t := by rintro rfl; rw [hc] at h2; exact absurd (h2 hl) (by simp)
  exact gt_set this

theorem effE_chg (h : okOp C oper.op = true) (he : effE C oper st = some st1) : Chg oper st st1 := by
  by_cases hs : sureV C oper.op = true
  · unfold effE at he
    rw [sureV_pop hs] at he
    cases hv : valV C oper st with
    | none => rw [hv] at he; simp at he
    | some v => rw [hv] at he; simp at he; subst he; exact .put v
  · obtain ⟨dst, op, ty, pos, after, guard⟩ := oper
    cases op with
    | move x =>
      cases x with
      | tmp t =>
        simp only [effE, popK] at he
        split at he
        · rename_i vs hv
          cases hcm : calms vs with
          | true => rw [hcm] at he; simp at he; subst he; exact Chg.put (oper := ⟨dst, .move (.tmp t), ty, pos, after, guard⟩) _
          | false =>
            rw [hcm] at he
            simp at he; subst he
            exact Chg.setPut (oper := ⟨dst, .move (.tmp t), ty, pos, after, guard⟩) (by simp [linS]) (by rw [hv]; exact hcm)
        · simp at he; subst he; exact Chg.put (oper := ⟨dst, .move (.tmp t), ty, pos, after, guard⟩) _
      | _ => simp [okOp, linV, sureV, quiet] at h hs
    | assign x =>
      cases x with
      | tmp t =>
        simp only [effE, popK] at he
        split at he
        · rename_i sz vs hv
          simp at he; subst he
          exact Chg.setPut (oper := ⟨dst, .assign (.tmp t), ty, pos, after, guard⟩) (by simp [linS]) (by rw [hv]; rfl)
        · simp at he
        · simp at he; subst he; exact Chg.put (oper := ⟨dst, .assign (.tmp t), ty, pos, after, guard⟩) _
      | _ => simp [okOp, linV, sureV, quiet] at h hs
    | extract x i =>
      cases x with
      | tmp t =>
        simp only [effE, popK] at he
        split at he
        · rename_i vs hv
          split at he
          · simp at he; subst he
            rename_i sz es hes
            refine Chg.setPut (oper := ⟨dst, .extract (.tmp t) i, ty, pos, after, guard⟩) (by simp [linS]) ?_
            rw [hv]
            cases hcm : calms vs with
            | false => exact hcm
            | true => have := calms_cmp hcm i; rw [hes] at this; exact this.elim
          · simp at he
          · simp at he
          · simp at he; subst he; exact Chg.put (oper := ⟨dst, .extract (.tmp t) i, ty, pos, after, guard⟩) _
        · simp at he
      | _ => simp [okOp, linV, sureV, quiet] at h hs
    | alloc t =>
      simp only [effE, popK] at he
      rw [bif_none_some] at he
      obtain ⟨_, he⟩ := he
      simp at he; subst he
      refine ⟨by rw [put_len], fun s h1 _ => by rw [gt_put h1], by rw [put_heap]; simp, .inl fun id ob h => ?_, fun h => absurd rfl (h t)⟩
      rw [put_heap]
      have := (List.getElem?_eq_some_iff.1 h).1
      show (st.heap ++ _)[id]? = _
      rw [List.getElem?_append_left this]; exact h
    | store t x y =>
      simp only [effE] at he
      unfold popK at he
      dsimp only at he
      split at he
      · rename_i id off hx
        obtain ⟨cs, hid, he⟩ := heapCells_inv he
        have fin : ∀ {sl : List PV} {ob : PObj}, sl.length = st.slots.length → (∀ s, (s ∈ linS (.store t x y) → calm (gt .undef st.slots s) = true) → gt PV.undef sl s = gt .undef st.slots s) →
            some (St.put ⟨sl, up st.heap id ob⟩ dst .undef) = some st1 → Chg ⟨dst, .store t x y, ty, pos, after, guard⟩ st st1 := by
          intro sl ob h1 h2 h3
          simp at h3; subst h3
          refine ⟨by rw [put_len]; exact h1, fun s k1 k2 => by rw [gt_put k1]; exact h2 s k2, by rw [put_heap]; simp, .inr ⟨t, x, y, id, off, rfl, hx, fun id' hne => ?_⟩, fun _ => by rw [put_heap]; simp⟩
          rw [put_heap, up_eq]
          exact List.getElem?_set_ne (Ne.symm hne)
        rw [bif_none_some] at he
        obtain ⟨_, he⟩ := he
        cases hsc : isScalar (C.ty t).ty
        · rw [hsc] at he
          simp only [cond_false] at he
          split at he
          · rw [bif_some] at he
            exact fin rfl (fun _ _ => rfl) he.2
          · simp at he
        · rw [hsc] at he
          simp only [cond_true] at he
          rw [bif_some] at he
          obtain ⟨_, he⟩ := he
          split at he
          · rename_i sz vs hy
            split at he
            · rename_i u _
              refine fin (by simp) (fun s hs => ?_) he
              have : s ≠ u := by
                rintro rfl
                have hy : gt PV.undef st.slots s = .own sz vs := by assumption
                have := hs (by simp [linS])
                rw [hy] at this; simp [calm] at this
              have := gt_set (st := st) (v := .d (.slc sz vs)) this
              exact this
            · exact fin rfl (fun _ _ => rfl) he
          · rw [bif_some] at he; exact fin rfl (fun _ _ => rfl) he.2
          · rw [bif_some] at he; exact fin rfl (fun _ _ => rfl) he.2
      · simp at he
    | _ => simp_all [okOp, linV]

/-- what is loaded from stands there too -/
def Holds (o : Oper) (st st' : St) : Prop := ∀ T a id off, o.op = .load T a → ev st a = .ptr id off → ∀ ob : PObj, st.heap[id]? = some ob → st'.heap[id]? = some ob

theorem valV_ext' {v : PV} (hv : valV C oper st = some v) (h1 : SameOn st st' oper.op.operands.toList) (h2 : Holds oper st st') : valV C oper st' = some v := by
  rw [← hv]
  refine valV_ext ⟨h1, fun T a id off e1 e2 => ?_⟩
  have : ∃ ob : PObj, st.heap[id]? = some ob := by
    unfold valV at hv
    rw [e1] at hv
    simp only [e2] at hv
    obtain ⟨cs, h, _⟩ := heapCells_inv hv
    exact ⟨_, h⟩
  obtain ⟨ob, hob⟩ := this
  rw [hob]; exact h2 T a id off e1 e2 ob hob

/-- a value: the same wherever what it is made of is the same -/
theorem effE_val (h : sureV C oper.op = true ∨ (linV oper.op = true ∧ calmI oper.op st = true)) (he : effE C oper st = some st1) :
    ∃ v, st1 = st.put oper.dst v ∧ ∀ st', SameOn st st' oper.op.operands.toList → Holds oper st st' → effE C oper st' = some (st'.put oper.dst v) := by
  rcases h with hs | ⟨h, hc⟩
  · unfold effE at he ⊢
    rw [sureV_pop hs] at he
    cases hv : valV C oper st with
    | none => rw [hv] at he; simp at he
    | some v =>
      rw [hv] at he; simp at he; subst he
      refine ⟨v, rfl, fun st' ha hh => ?_⟩
      rw [sureV_pop hs, valV_ext' hv ha hh]; rfl
  · obtain ⟨dst, op, ty, pos, after, guard⟩ := oper
    cases op with
    | move x =>
      cases x with
      | tmp t =>
        simp only [effE, popK] at he ⊢
        simp only [calmI] at hc
        split at he
        · rename_i vs hv; rw [hv] at hc; simp [isTup] at hc
        · rename_i v hv
          simp at he; subst he
          refine ⟨_, rfl, fun st' ha _ => ?_⟩
          have := ha (.tmp t) (by simp [Op.operands])
          simp only [ev] at this
          rw [this]
          split
          · rename_i vs hv'; exact absurd hv' (hv vs)
          · rfl
      | _ => simp [linV] at h
    | assign x =>
      cases x with
      | tmp t =>
        simp only [effE, popK] at he ⊢
        simp only [calmI] at hc
        split at he
        · rename_i sz vs hv; rw [hv] at hc; simp [calm] at hc
        · simp at he
        · rename_i v hv1 hv2
          simp at he; subst he
          refine ⟨_, rfl, fun st' ha _ => ?_⟩
          have := ha (.tmp t) (by simp [Op.operands])
          simp only [ev] at this
          rw [this]
          split
          · rename_i sz vs hv'; exact absurd hv' (hv1 sz vs)
          · rename_i vs hv'; exact absurd hv' (hv2 vs)
          · rfl
      | _ => simp [linV] at h
    | extract x i =>
      cases x with
      | tmp t =>
        simp only [effE, popK] at he ⊢
        simp only [calmI] at hc
        split at he
        · rename_i vs hv
          rw [hv] at hc
          dsimp only at hc
          split at he
          · rename_i sz es hg; rw [hg] at hc; simp [calm] at hc
          · simp at he
          · simp at he
          · rename_i v h1 h2 h3
            simp at he; subst he
            refine ⟨_, rfl, fun st' ha _ => ?_⟩
            have := ha (.tmp t) (by simp [Op.operands])
            simp only [ev] at this
            rw [this, hv]
            dsimp only
            split
            · rename_i sz es hg; exact absurd hg (h1 sz es)
            · rename_i us hg; exact absurd hg (h2 us)
            · rename_i hg; exact absurd hg h3
            · rfl
        · simp at he
      | _ => simp [linV] at h
    | _ => simp [linV] at h

end
end Go.PS
end

section
namespace Go.PS
open Go.RowKit
section
variable {P : Program} {C : Ctx} {ops : List Oper} {st st' st1 : St} {R : Type} {o i b : Oper} {kp : DV → List PObj → Option R} {k : St → Option R} {sy : Sy} {app : Bool}

/-- is an operation wanted, as far as the slots tell -/
def gd (ops : List Oper) (o : Oper) (st : St) : Option Bool :=
  match o.guard with
  | none => some true
  | some (j, want) => match gt none (ops.map some) j with
    | some g => (match g.dst with
      | some t => (match gt .undef st.slots t with
        | .d (.bool b) => some (b == want)
        | .skp => some false
        | _ => none)
      | none => none)
    | none => none

theorem set_same {t : Nat} {v : PV} (h : gt .undef st.slots t = v) : st.set t v = st := by
  obtain ⟨sl, H⟩ := st
  simp only [St.set, St.mk.injEq, and_true]
  rw [up_eq]
  rw [gt_eq] at h
  apply List.ext_getElem?
  intro n
  rw [List.getElem?_set]
  split
  · subst_vars
    split
    · rename_i hl; rw [List.getElem?_eq_getElem hl]; simp
    · rename_i hl; rw [List.getElem?_eq_none (Nat.le_of_not_lt hl)]
  · rfl

theorem guarded_gd (y n : St → Option R) : guarded ops o st y n = match gd ops o st with | some true => y st | some false => n st | none => none := by
  unfold guarded gd
  cases o.guard with
  | none => rfl
  | some jw =>
    obtain ⟨j, want⟩ := jw
    dsimp only
    cases gt none (ops.map some) j with
    | none => rfl
    | some g =>
      dsimp only
      cases g.dst with
      | none => rfl
      | some t =>
        dsimp only
        cases hg : gt PV.undef st.slots t with
        | d v =>
          cases v with
          | bool c =>
            dsimp only
            cases want <;> cases c <;> simp [cnd, set_same hg]
          | _ => rfl
        | _ => rfl

theorem gd_same (h : ∀ t ∈ guardT ops o, gt PV.undef st'.slots t = gt .undef st.slots t) : gd ops o st' = gd ops o st := by
  unfold gd
  cases hg : o.guard with
  | none => rfl
  | some jw =>
    obtain ⟨j, want⟩ := jw
    dsimp only
    cases hj : gt none (ops.map some) j with
    | none => rfl
    | some g =>
      dsimp only
      cases ht : g.dst with
      | none => rfl
      | some t =>
        dsimp only
        rw [h t (by simp [guardT, hg, hj, ht])]

/-- one operation, run or passed over -/
def exec (C : Ctx) (ops : List Oper) (o : Oper) (st : St) : Option (Bool × St) :=
  match gd ops o st with
  | some true => (effE C o st).map (Prod.mk true)
  | some false => some (false, st.put o.dst .skp)
  | none => none

def updS (C : Ctx) (app : Bool) (o : Oper) (ran : Bool) (sy : Sy) : Sy := bif app then (bif ran then syncs C o sy else dropO o.dst sy) else sy

theorem stepK_exec (h : okOp C o.op = true) (K : Sy → St → Option R) : stepK C ops app kp o sy st K = (exec C ops o st).bind fun p => K (updS C app o p.1 sy) p.2 := by
  unfold stepK exec
  rw [guarded_gd]
  cases gd ops o st with
  | none => rfl
  | some g =>
    cases g with
    | true =>
      dsimp only
      rw [okOp_nat h]
      cases effE C o st with
      | none => rfl
      | some s => cases app <;> rfl
    | false => cases app <;> rfl

theorem exec_frame (h : okOp C o.op = true) {d : Nat} {v : PV} (hd : d ∉ rdS ops o) (hdst : o.dst ≠ some d) : exec C ops o (st.set d v) = (exec C ops o st).map fun p => (p.1, p.2.set d v) := by
  have hd1 : d ∉ tmpsL o.op.operands.toList := fun h => hd (by simp [rdS, h])
  have hd2 : d ∉ guardT ops o := fun h => hd (by simp [rdS, h])
  unfold exec
  rw [gd_same (st := st) (st' := st.set d v) (fun t ht => gt_set (by rintro rfl; exact hd2 ht))]
  cases gd ops o st with
  | none => rfl
  | some g =>
    cases g with
    | true =>
      dsimp only
      rw [effE_frame h hd1 hdst]
      cases effE C o st <;> rfl
    | false =>
      dsimp only
      rw [put_set hdst]; rfl

theorem exec_frameO (h : okOp C o.op = true) {d : Option Tmp} {v : PV} (hd : isDstOf d (rdS ops o) = false) (hdst : sameDst d o.dst = false) : exec C ops o (st.put d v) = (exec C ops o st).map fun p => (p.1, p.2.put d v) := by
  cases d with
  | none =>
    show exec C ops o st = _
    cases exec C ops o st <;> rfl
  | some d =>
    refine exec_frame h ?_ ?_
    · intro hm
      have : ∀ l : List Nat, d ∈ l → memN d l = true := by
        intro l
        induction l with
        | nil => intro h; simp at h
        | cons u l ih =>
          intro hm
          simp only [memN, Bool.or_eq_true]
          rcases List.mem_cons.1 hm with e | e
          · subst e; exact .inl (by simp)
          · exact .inr (ih e)
      simp only [isDstOf] at hd
      rw [this _ hm] at hd; simp at hd
    · intro e
      rw [e] at hdst; simp [sameDst] at hdst

theorem exec_chg (h : okOp C o.op = true) {p : Bool × St} (he : exec C ops o st = some p) : Chg o st p.2 := by
  unfold exec at he
  split at he
  · cases hf : effE C o st with
    | none => rw [hf] at he; simp at he
    | some s => rw [hf] at he; simp at he; subst he; exact effE_chg h hf
  · simp at he; subst he; exact .put _
  · simp at he

theorem exec_val (h : sureV C o.op = true ∨ (linV o.op = true ∧ calmI o.op st = true)) {p : Bool × St} (he : exec C ops o st = some p) :
    ∃ v, p.2 = st.put o.dst v ∧ ∀ st', (∀ t ∈ rdS ops o, gt PV.undef st'.slots t = gt .undef st.slots t) → Holds o st st' → exec C ops o st' = some (p.1, st'.put o.dst v) := by
  have hgd : ∀ st' : St, (∀ t ∈ rdS ops o, gt PV.undef st'.slots t = gt .undef st.slots t) → gd ops o st' = gd ops o st := fun st' hs => gd_same fun t ht => hs t (by simp [rdS, ht])
  unfold exec at he
  split at he
  · rename_i hg
    cases hf : effE C o st with
    | none => rw [hf] at he; simp at he
    | some s =>
      rw [hf] at he; simp at he; subst he
      obtain ⟨v, h1, h2⟩ := effE_val h hf
      refine ⟨v, h1, fun st' hs hl => ?_⟩
      unfold exec
      rw [hgd st' hs, hg]
      dsimp only
      rw [h2 st' (agree_of fun t ht => hs t (by simp [rdS, ht])) hl]
      rfl
  · rename_i hg
    simp at he; subst he
    refine ⟨.skp, rfl, fun st' hs _ => ?_⟩
    unfold exec
    rw [hgd st' hs, hg]
  · simp at he

theorem put_put_comm {a c : Option Tmp} {u v : PV} (h : sameDst a c = false) : (st.put a u).put c v = (st.put c v).put a u := by
  cases a with
  | none => rfl
  | some a =>
    cases c with
    | none => rfl
    | some c =>
      have : c ≠ a := by rintro rfl; simp [sameDst] at h
      exact put_set (dst := some c) (by simpa using this)

/-! what is known of places -/

theorem keep_keep (g : Org) (a c : Nat) : (g.keep a).keep c = (g.keep c).keep a := by
  unfold Org.keep
  cases h1 : g.uses a <;> cases h2 : g.uses c <;> simp only [h1, h2, cond_true, cond_false] <;> first | rfl | (show (bif false then _ else _) = _; rfl)

theorem addS_comm {d e : Nat} {g f : Org} (hne : d ≠ e) (h1 : g.uses e = false) (h2 : f.uses d = false) : addS d g (addS e f sy) = addS e f (addS d g sy) := by
  funext u
  unfold addS
  have k1 : g.keep e = g := by simp [Org.keep, h1]
  have k2 : f.keep d = f := by simp [Org.keep, h2]
  cases hu : Nat.beq u d
  · cases hv : Nat.beq u e
    · simp only [cond_false]; rw [keep_keep]
    · simp only [cond_false, cond_true]; exact k2
  · have := Nat.eq_of_beq_eq_true hu; subst this
    have hv : Nat.beq u e = false := by
      cases hb : Nat.beq u e
      · rfl
      · exact absurd (Nat.eq_of_beq_eq_true hb) hne
    rw [hv]
    simp only [cond_false, cond_true]; exact k1.symm

def addO (t : Option Tmp) (g : Org) (sy : Sy) : Sy :=
  match t with
  | some t => addS t g sy
  | none => sy

theorem addO_comm {d e : Option Tmp} {g f : Org} (hne : sameDst d e = false) (h1 : ∀ t, e = some t → g.uses t = false) (h2 : ∀ t, d = some t → f.uses t = false) : addO d g (addO e f sy) = addO e f (addO d g sy) := by
  cases d with
  | none => rfl
  | some d =>
    cases e with
    | none => rfl
    | some e => exact addS_comm (by rintro rfl; simp [sameDst] at hne) (h1 e rfl) (h2 d rfl)

theorem keepS_syncs (h : keepS C o.op = true) (ran : Bool) : ∃ g : Org, (∀ d, d ∉ tmpsL o.op.operands.toList → g.uses d = false) ∧ ∀ sy, updS C true o ran sy = addO o.dst g sy := by
  have hself : ∀ sy, dropO o.dst sy = addO o.dst .self sy := by intro sy; cases o.dst <;> rfl
  cases ran with
  | false => exact ⟨.self, fun _ _ => rfl, fun sy => hself sy⟩
  | true =>
    obtain ⟨dst, op, ty, pos, after, guard⟩ := o
    have quietCase : quiet op = true → ∃ g : Org, (∀ d, d ∉ tmpsL op.operands.toList → g.uses d = false) ∧ ∀ sy, updS C true ⟨dst, op, ty, pos, after, guard⟩ true sy = addO dst g sy := by
      intro hq
      refine ⟨.self, fun _ _ => rfl, fun sy => ?_⟩
      have : syncs C ⟨dst, op, ty, pos, after, guard⟩ sy = dropO dst sy := by
        unfold syncs
        cases op <;> simp [quiet] at hq <;> rfl
      show syncs C _ sy = _
      rw [this]; exact hself sy
    cases op with
    | move x =>
      cases x with
      | tmp v =>
        cases dst with
        | none => exact ⟨.self, fun _ _ => rfl, fun sy => rfl⟩
        | some t =>
          cases hb : Nat.beq t v
          · refine ⟨.slot v, fun d hd => ?_, fun sy => ?_⟩
            · cases hv : Org.uses d (.slot v)
              · rfl
              · have := Nat.eq_of_beq_eq_true hv; subst this
                exact absurd (by simp [Op.operands, tmpsL]) hd
            · simp [updS, syncs, hb, addO]
          · exact ⟨.self, fun _ _ => rfl, fun sy => by simp [updS, syncs, hb, addO]; rfl⟩
      | _ => simp [keepS, quiet] at h
    | load T x =>
      cases x with
      | tmp v =>
        cases dst with
        | none => exact ⟨.self, fun _ _ => rfl, fun sy => rfl⟩
        | some t =>
          cases hb : (Nat.beq t v || !isScalar (C.ty T).ty)
          · refine ⟨.cell v, fun d hd => ?_, fun sy => ?_⟩
            · cases hv : Org.uses d (.cell v)
              · rfl
              · have := Nat.eq_of_beq_eq_true hv; subst this
                exact absurd (by simp [Op.operands, tmpsL]) hd
            · simp only [updS, cond_true, syncs, hb]; rfl
          · refine ⟨.self, fun _ _ => rfl, fun sy => ?_⟩
            simp only [updS, cond_true, syncs, hb]; rfl
      | _ => simp [keepS, quiet] at h
    | call c =>
      obtain ⟨callee, args, ats⟩ := c
      cases callee with
      | value f =>
        refine ⟨.self, fun _ _ => rfl, fun sy => ?_⟩
        simp only [keepS] at h
        simp only [updS, cond_true, syncs, h]; exact hself sy
      | _ => simp [keepS, quiet] at h
    | _ => exact quietCase h

end
end Go.PS
end

section
namespace Go.PS
open Go.RowKit
section
variable {P : Program} {C : Ctx} {ops : List Oper} {st st' st1 : St} {R : Type} {o i b c : Oper} {kp : DV → List PObj → Option R} {k : St → Option R} {sy : Sy} {app : Bool}

theorem memN_mem {t : Nat} : ∀ {l : List Nat}, memN t l = true ↔ t ∈ l := by
  intro l
  induction l with
  | nil => simp [memN]
  | cons u l ih =>
    simp only [memN, Bool.or_eq_true, List.mem_cons, ih]
    constructor
    · rintro (h | h)
      · exact .inl (Nat.eq_of_beq_eq_true h).symm
      · exact .inr h
    · rintro (h | h)
      · subst h; exact .inl (by simp)
      · exact .inr h

theorem isDstOf_false {d : Option Tmp} {l : List Nat} (h : isDstOf d l = false) : ∀ t ∈ l, d ≠ some t := by
  rintro t ht rfl
  simp only [isDstOf] at h
  rw [memN_mem.2 ht] at h; simp at h

theorem calmAll_spec {rd : List Nat} : ∀ {l : List Nat}, calmAll st rd l = true ↔ ∀ t ∈ l, t ∈ rd → calm (gt .undef st.slots t) = true := by
  intro l
  induction l with
  | nil => simp [calmAll]
  | cons u l ih =>
    simp only [calmAll, Bool.and_eq_true, ih, Bool.or_eq_true, Bool.not_eq_true', List.mem_cons, forall_eq_or_imp]
    constructor
    · rintro ⟨h1, h2⟩
      refine ⟨fun hu => ?_, h2⟩
      rcases h1 with h1 | h1
      · rw [memN_mem.2 hu] at h1; simp at h1
      · exact h1
    · rintro ⟨h1, h2⟩
      refine ⟨?_, h2⟩
      cases hm : memN u rd
      · exact .inl rfl
      · exact .inr (h1 (memN_mem.1 hm))

theorem linS_rd {t : Nat} (h : t ∈ linS o.op) : t ∈ rdS ops o := by
  have : t ∈ tmpsL o.op.operands.toList := by
    obtain ⟨dst, op, ty, pos, after, guard⟩ := o
    cases op with
    | move x => cases x <;> simp [linS] at h; subst h; simp [Op.operands, tmpsL]
    | assign x => cases x <;> simp [linS] at h; subst h; simp [Op.operands, tmpsL]
    | extract x i => cases x <;> simp [linS] at h; subst h; simp [Op.operands, tmpsL]
    | store T x y =>
      cases y <;> simp [linS] at h
      subst h
      cases x <;> simp [Op.operands, tmpsL]
    | _ => simp [linS] at h
  simp [rdS, this]

theorem sameDst_symm {a c : Option Tmp} (h : sameDst a c = false) : sameDst c a = false := by
  cases a <;> cases c <;> simp only [sameDst] at h ⊢
  rename_i x y
  cases hb : Nat.beq y x
  · rfl
  · have := Nat.eq_of_beq_eq_true hb
    subst this; simp at h

theorem isDst_mem {d : Nat} : ∀ {l : List Oper}, isDst d l = false → ∀ x ∈ l, x.dst ≠ some d := by
  intro l
  induction l with
  | nil => intro _ x hx; simp at hx
  | cons y l ih =>
    intro h x hx
    simp only [isDst, Bool.or_eq_false_iff] at h
    rcases List.mem_cons.1 hx with rfl | hx
    · intro e
      rw [e] at h; simp at h
    · exact ih h.2 x hx

/-- what the look at a pair says -/
structure SwapS (ops : List Oper) (i b : Oper) : Prop where
  d1 : isDstOf i.dst (rdS ops b) = false
  d2 : sameDst i.dst b.dst = false
  d3 : isDstOf b.dst (rdS ops i) = false

theorem sureV_notStore {T : TypeId} {x y : Operand} (h : sureV C (.store T x y) = true) : False := by simp [sureV, quiet] at h

theorem sureV_lin {op : Op} (h : sureV C op = true) : linS op = [] := by
  cases op with
  | move x => cases x <;> first | rfl | (simp [sureV, quiet] at h)
  | assign x => cases x <;> first | rfl | (simp [sureV, quiet] at h)
  | extract x i => simp [sureV, quiet] at h
  | store T x y => simp [sureV, quiet] at h
  | _ => rfl

def condA (C : Ctx) (ops : List Oper) (i b : Oper) (st : St) : Bool :=
  match b.op with
  | .alloc _ => true
  | .store _ y _ => (match i.op with
    | .load _ x => (match ev st x with | .ptr id _ => apartB ops st id y | .ro _ => true | _ => false)
    | _ => true)
  | op => sureV C op || linV op

def condB (ops : List Oper) (i b : Oper) (st : St) : Bool :=
  match i.op with
  | .store _ x _ => (match ev st x with
    | .ptr id _ => (match b.op with | .load _ y => apartB ops st id y | _ => true)
    | _ => false)
  | .alloc _ => (match b.op with | .load _ y => belowB ops st y | _ => true)
  | _ => false

theorem swapB_iff : swapB C ops app i b st = true ↔ (SwapS ops i b ∧ (app = true → keepS C i.op = true ∧ keepS C b.op = true)) ∧
    (((sureV C i.op = true ∨ linV i.op = true) ∧ calmI i.op st = true ∧ calmAll st (rdS ops i) (linS b.op) = true ∧ condA C ops i b st = true) ∨
     (sureV C b.op = true ∧ calmAll st (rdS ops b) (linS i.op) = true ∧ condB ops i b st = true)) := by
  unfold swapB
  show ((_ && _) && ((_ && condA C ops i b st) || (_ && condB ops i b st))) = true ↔ _
  simp only [Bool.and_eq_true, Bool.or_eq_true, Bool.not_eq_true']
  constructor
  · rintro ⟨⟨⟨⟨h1, h2⟩, h3⟩, h4⟩, h5⟩
    refine ⟨⟨⟨h1, h2, h3⟩, fun ha => ?_⟩, ?_⟩
    · rcases h4 with h4 | h4
      · rw [ha] at h4; simp at h4
      · exact h4
    · rcases h5 with ⟨⟨⟨k1, k2⟩, k3⟩, k4⟩ | ⟨⟨k1, k2⟩, k3⟩
      · exact .inl ⟨k1, k2, k3, k4⟩
      · exact .inr ⟨k1, k2, k3⟩
  · rintro ⟨⟨⟨h1, h2, h3⟩, h4⟩, h5⟩
    refine ⟨⟨⟨⟨h1, h2⟩, h3⟩, ?_⟩, ?_⟩
    · cases app
      · exact .inl rfl
      · exact .inr (h4 rfl)
    · rcases h5 with ⟨k1, k2, k3, k4⟩ | ⟨k1, k2, k3⟩
      · exact .inl ⟨⟨⟨k1, k2⟩, k3⟩, k4⟩
      · exact .inr ⟨⟨k1, k2⟩, k3⟩

theorem condA_ok (h : condA C ops i b st = true) : okOp C b.op = true := by
  obtain ⟨dst, op, ty, pos, after, guard⟩ := b
  unfold condA at h
  cases op <;> dsimp only at h <;> unfold okOp <;> first
    | (simp only [Bool.or_true]; done)
    | (rw [h]; rfl)

theorem condB_ok (h : condB ops i b st = true) : okOp C i.op = true ∧ ((∃ T x y, i.op = .store T x y) ∨ ∃ T, i.op = .alloc T) := by
  obtain ⟨dst, op, ty, pos, after, guard⟩ := i
  unfold condB at h
  cases op <;> first | (simp at h; done) | skip
  · exact ⟨by simp [okOp], .inr ⟨_, rfl⟩⟩
  · exact ⟨by simp [okOp], .inl ⟨_, _, _, rfl⟩⟩

theorem okV (h : sureV C i.op = true ∨ linV i.op = true) : okOp C i.op = true := by
  unfold okOp
  rcases h with h | h <;> simp [h]

theorem apartB_spec {id : Nat} {x : Operand} (h : apartB ops st id x = true) : ∃ s, x = .tmp s ∧ isDst s ops = false ∧ ((∃ id' off, gt PV.undef st.slots s = .ptr id' off ∧ id ≠ id') ∨ ∃ vs, gt PV.undef st.slots s = .ro vs) := by
  cases x with
  | tmp s =>
    simp only [apartB, Bool.and_eq_true, Bool.not_eq_true'] at h
    refine ⟨s, rfl, h.1, ?_⟩
    have h2 := h.2
    split at h2
    · rename_i id' off he
      refine .inl ⟨id', off, he, ?_⟩
      rintro rfl
      simp at h2
    · rename_i vs he; exact .inr ⟨vs, he⟩
    · simp at h2
  | _ => simp [apartB] at h

theorem belowB_spec {x : Operand} (h : belowB ops st x = true) : ∃ s, x = .tmp s ∧ isDst s ops = false ∧ ((∃ id' off, gt PV.undef st.slots s = .ptr id' off ∧ id' < st.heap.length) ∨ ∃ vs, gt PV.undef st.slots s = .ro vs) := by
  cases x with
  | tmp s =>
    simp only [belowB, Bool.and_eq_true, Bool.not_eq_true'] at h
    refine ⟨s, rfl, h.1, ?_⟩
    have h2 := h.2
    split at h2
    · rename_i id' off he
      exact .inl ⟨id', off, he, Nat.le_of_ble_eq_true h2⟩
    · rename_i vs he; exact .inr ⟨vs, he⟩
    · simp at h2
  | _ => simp [belowB] at h

/-- two operations change places -/
theorem exec_swap (h : swapB C ops app i b st = true) {p1 p2 : Bool × St} (h1 : exec C ops i st = some p1) (h2 : exec C ops b p1.2 = some p2) :
    ∃ q1, exec C ops b st = some (p2.1, q1) ∧ exec C ops i q1 = some (p1.1, p2.2) := by
  rw [swapB_iff] at h
  obtain ⟨⟨⟨d1, d2, d3⟩, _⟩, h⟩ := h
  rcases h with ⟨hV, hc, hca, hcond⟩ | ⟨hV, hca, hcond⟩
  · have hokb := condA_ok hcond
    obtain ⟨v, e1, e2⟩ := exec_val (hV.imp id fun h => ⟨h, hc⟩) h1
    rw [e1, exec_frameO hokb d1 d2] at h2
    cases hb : exec C ops b st with
    | none => rw [hb] at h2; simp at h2
    | some q =>
      rw [hb] at h2; simp only [Option.map_some, Option.some.injEq] at h2
      subst h2
      have hch := exec_chg hokb hb
      refine ⟨q.2, rfl, e2 q.2 (fun t ht => hch.slot t (isDstOf_false d3 t ht) fun hl => calmAll_spec.1 hca t hl ht) ?_⟩
      intro T x id off ho hx ob hob
      rcases hch.heap with hh | ⟨T', x', y', id', off', hs, hx', hh⟩
      · exact hh id ob hob
      · rw [hh id ?_]; exact hob
        rintro rfl
        unfold condA at hcond
        rw [hs, ho] at hcond
        simp only [hx] at hcond
        obtain ⟨s, rfl, _, hsl⟩ := apartB_spec hcond
        simp only [ev] at hx'
        rcases hsl with ⟨id2, off2, hsl, hne⟩ | ⟨vs, hsl⟩
        · rw [hsl] at hx'; simp at hx'; exact hne hx'.1.symm
        · rw [hsl] at hx'; simp at hx'
  · obtain ⟨hoki, hkind⟩ := condB_ok (C := C) hcond
    have hch := exec_chg hoki h1
    obtain ⟨v, e1, e2⟩ := exec_val (.inl hV) h2
    have hsame : ∀ t ∈ rdS ops b, gt PV.undef p1.2.slots t = gt .undef st.slots t := fun t ht => hch.slot t (isDstOf_false d1 t ht) fun hl => calmAll_spec.1 hca t hl ht
    have hb := e2 st (fun t ht => (hsame t ht).symm) ?_
    · refine ⟨_, hb, ?_⟩
      rw [exec_frameO hoki d3 (sameDst_symm d2), h1]
      simp [e1]
    · intro T x id off ho hx ob hob
      have hx : ev st x = .ptr id off := by
        have := agree_of (st := st) (st' := p1.2) (l := b.op.operands.toList) (fun t ht => hsame t (by simp [rdS, ht])) x (by rw [ho]; simp [Op.operands])
        rw [← this]; exact hx
      unfold condB at hcond
      rcases hkind with ⟨T', x', y', hk⟩ | ⟨T', hk⟩
      · rw [hk, ho] at hcond
        dsimp only at hcond
        split at hcond
        · rename_i id2 off2 hx2
          obtain ⟨s, rfl, _, hsl⟩ := apartB_spec hcond
          simp only [ev] at hx
          rcases hch.heap with hh | ⟨T3, x3, y3, id3, off3, hs3, hx3, hh⟩
          · -- nothing was stored
            rcases hsl with ⟨id4, off4, hsl, hne⟩ | ⟨vs, hsl⟩
            · rw [hsl] at hx; simp at hx
              cases hst : st.heap[id]? with
              | some ob' => rw [hh id ob' hst] at hob; exact hob
              | none =>
                exfalso
                have hl : p1.2.heap.length = st.heap.length := hch.hleq (by rw [hk]; simp)
                have := (List.getElem?_eq_some_iff.1 hob).1
                rw [hl] at this
                rw [List.getElem?_eq_none_iff] at hst; omega
            · rw [hsl] at hx; simp at hx
          · rw [hk] at hs3
            simp at hs3
            obtain ⟨rfl, rfl, rfl⟩ := hs3
            rw [hx2] at hx3; simp at hx3
            rcases hsl with ⟨id4, off4, hsl, hne⟩ | ⟨vs, hsl⟩
            · rw [hsl] at hx; simp at hx
              rw [hh id (by rintro rfl; exact hne (hx3.1.trans hx.1.symm))] at hob
              exact hob
            · rw [hsl] at hx; simp at hx
        · simp at hcond
      · rw [hk, ho] at hcond
        dsimp only at hcond
        obtain ⟨s, rfl, _, hsl⟩ := belowB_spec hcond
        simp only [ev] at hx
        rcases hsl with ⟨id4, off4, hsl, hlt⟩ | ⟨vs, hsl⟩
        · rw [hsl] at hx; simp at hx
          rcases hch.heap with hh | ⟨T3, x3, y3, id3, off3, hs3, _⟩
          · have hlt : id < st.heap.length := by omega
            have := hh id _ (List.getElem?_eq_getElem hlt)
            rw [this] at hob
            rw [List.getElem?_eq_getElem hlt]; exact hob
          · rw [hk] at hs3; simp at hs3
        · rw [hsl] at hx; simp at hx

end
end Go.PS
end

section
namespace Go.PS
open Go.RowKit
section
variable {P : Program} {C : Ctx} {ops : List Oper} {st st' st1 : St} {R : Type} {o i b c x y : Oper} {kp : DV → List PObj → Option R} {k : St → Option R} {r : R} {sy : Sy} {app two : Bool}

theorem swap_same (h : swapB C ops app y x st = true) {p : Bool × St} (he : exec C ops x st = some p) : (∀ t ∈ rdS ops y, gt PV.undef p.2.slots t = gt .undef st.slots t) ∧ Chg x st p.2 ∧ okOp C x.op = true ∧ okOp C y.op = true := by
  rw [swapB_iff] at h
  obtain ⟨⟨⟨d1, d2, d3⟩, _⟩, h⟩ := h
  rcases h with ⟨hV, hc, hca, hcond⟩ | ⟨hV, hca, hcond⟩
  · have hok := condA_ok hcond
    have hch := exec_chg hok he
    exact ⟨fun t ht => hch.slot t (isDstOf_false d3 t ht) fun hl => calmAll_spec.1 hca t hl ht, hch, hok, okV hV⟩
  · have hok : okOp C x.op = true := okV (.inl hV)
    have hch := exec_chg hok he
    exact ⟨fun t ht => hch.slot t (isDstOf_false d3 t ht) fun hl => by rw [sureV_lin hV] at hl; simp at hl, hch, hok, (condB_ok (C := C) hcond).1⟩

theorem calmI_same {op : Op} (h : ∀ t ∈ tmpsL op.operands.toList, gt PV.undef st'.slots t = gt .undef st.slots t) : calmI op st' = calmI op st := by
  cases op with
  | move x => cases x <;> simp only [calmI]; rw [h _ (by simp [Op.operands, tmpsL])]
  | assign x => cases x <;> simp only [calmI]; rw [h _ (by simp [Op.operands, tmpsL])]
  | extract x i => cases x <;> simp only [calmI]; rw [h _ (by simp [Op.operands, tmpsL])]
  | _ => rfl

theorem apartB_stable (hch : Chg x st st1) (hx : x ∈ ops) {id : Nat} {z : Operand} (h : apartB ops st id z = true) : apartB ops st1 id z = true := by
  obtain ⟨s, rfl, h1, h2⟩ := apartB_spec h
  have : gt PV.undef st1.slots s = gt .undef st.slots s := hch.slot s (isDst_mem h1 x hx) fun _ => by
    rcases h2 with ⟨id', off, h2, _⟩ | ⟨vs, h2⟩ <;> rw [h2] <;> rfl
  simp only [apartB] at h ⊢
  rw [this]; exact h

theorem belowB_stable (hch : Chg x st st1) (hx : x ∈ ops) {z : Operand} (h : belowB ops st z = true) : belowB ops st1 z = true := by
  obtain ⟨s, rfl, h1, h2⟩ := belowB_spec h
  have : gt PV.undef st1.slots s = gt .undef st.slots s := hch.slot s (isDst_mem h1 x hx) fun _ => by
    rcases h2 with ⟨id', off, h2, _⟩ | ⟨vs, h2⟩ <;> rw [h2] <;> rfl
  simp only [belowB, this, h1]
  rcases h2 with ⟨id', off, h2, hlt⟩ | ⟨vs, h2⟩
  · rw [h2]
    have := hch.hlen
    simp only [Bool.not_false, Bool.true_and]
    exact Nat.ble_eq_true_of_le (by omega)
  · rw [h2]; rfl

theorem swap_stable (h : swapB C ops app y x st = true) {p : Bool × St} (he : exec C ops x st = some p) (hx : x ∈ ops) (hc : swapB C ops app y c st = true) : swapB C ops app y c p.2 = true := by
  obtain ⟨hs, hch, _⟩ := swap_same h he
  have hev : ∀ z ∈ y.op.operands.toList, ev p.2 z = ev st z := agree_of fun t ht => hs t (by simp [rdS, ht])
  rw [swapB_iff] at hc ⊢
  obtain ⟨h1, h2⟩ := hc
  refine ⟨h1, ?_⟩
  rcases h2 with ⟨k1, k2, k3, k4⟩ | ⟨k1, k2, k3⟩
  · refine .inl ⟨k1, ?_, ?_, ?_⟩
    · rw [calmI_same fun t ht => hs t (by simp [rdS, ht])]; exact k2
    · rw [calmAll_spec] at k3 ⊢
      intro t h1 h2
      rw [hs t h2]; exact k3 t h1 h2
    · unfold condA at k4 ⊢
      split at k4
      · rfl
      · split at k4
        · rename_i T z hy
          rw [hev z (by rw [hy]; simp [Op.operands])]
          split at k4
          · exact apartB_stable hch hx k4
          · rfl
          · simp at k4
        · rfl
      · exact k4
  · refine .inr ⟨k1, ?_, ?_⟩
    · rw [calmAll_spec] at k2 ⊢
      intro t h1 h2
      rw [hs t (linS_rd h1)]; exact k2 t h1 h2
    · unfold condB at k3 ⊢
      split at k3
      · rename_i T z u hy
        rw [hev z (by rw [hy]; simp [Op.operands])]
        split at k3
        · split at k3
          · exact apartB_stable hch hx k3
          · rfl
        · simp at k3
      · split at k3
        · exact belowB_stable hch hx k3
        · rfl
      · simp at k3

theorem updS_comm (h : swapB C ops app i b st = true) (r1 r2 : Bool) (sy : Sy) : updS C app b r2 (updS C app i r1 sy) = updS C app i r1 (updS C app b r2 sy) := by
  rw [swapB_iff] at h
  obtain ⟨⟨⟨d1, d2, d3⟩, hk⟩, _⟩ := h
  cases app with
  | false => rfl
  | true =>
    obtain ⟨k1, k2⟩ := hk rfl
    obtain ⟨g, g1, g2⟩ := keepS_syncs k1 r1
    obtain ⟨f, f1, f2⟩ := keepS_syncs k2 r2
    rw [g2, f2, f2, g2]
    refine addO_comm (sameDst_symm d2) (fun t ht => f1 t fun hm => ?_) (fun t ht => g1 t fun hm => ?_)
    · exact isDstOf_false d1 t (by simp [rdS, hm]) ht
    · exact isDstOf_false d3 t (by simp [rdS, hm]) ht

theorem dynAll_spec {n : Nat} : ∀ {l : List (Nat × Oper)}, dynAll C ops app two n o st l = true ↔ ∀ q ∈ l, ordered2 ops n q.2 = true ∨ (two = true ∧ isAlloc o.op = true ∧ isAlloc q.2.op = true) ∨ swapB C ops app o q.2 st = true := by
  intro l
  induction l with
  | nil => simp [dynAll]
  | cons q l ih => obtain ⟨m, b⟩ := q; simp [dynAll, ih, and_assoc, or_assoc]

/-- an operation that is ready may come first -/
theorem runD_take : ∀ (p : List (Nat × Oper)) {x : Nat × Oper} {s : List (Nat × Oper)} {sy : Sy} {st : St}, (∀ q ∈ p, ordered2 ops q.1 x.2 = false ∧ (two = true → isAlloc q.2.op = true → isAlloc x.2.op = false)) → x.2 ∈ ops →
    runD C ops app two kp k (p ++ x :: s) sy st = some r → stepK C ops app kp x.2 sy st (fun sy' st' => runD C ops app two kp k (p ++ s) sy' st') = some r := by
  intro p
  induction p with
  | nil =>
    intro x s sy st _ _ h
    obtain ⟨n, o⟩ := x
    simp only [List.nil_append, runD] at h
    rw [bif_some] at h
    exact h.2
  | cons y p ih =>
    intro x s sy st hord hmem h
    obtain ⟨n, yo⟩ := y
    simp only [List.cons_append, runD] at h
    rw [bif_some] at h
    obtain ⟨hb, h⟩ := h
    simp only [Bool.and_eq_true] at hb
    have hall := dynAll_spec.1 hb.2
    have hsw : swapB C ops app yo x.2 st = true := by
      have ho := hord (n, yo) (List.mem_cons_self ..)
      rcases hall x (by simp) with h1 | ⟨h1, h2, h3⟩ | h1
      · rw [ho.1] at h1; simp at h1
      · rw [ho.2 h1 h2] at h3; simp at h3
      · exact h1
    have hokx : okOp C x.2.op = true ∧ okOp C yo.op = true := by
      have := swapB_iff.1 hsw
      rcases this.2 with ⟨hV, _, _, hcond⟩ | ⟨hV, _, hcond⟩
      · exact ⟨condA_ok hcond, okV hV⟩
      · exact ⟨okV (.inl hV), (condB_ok (C := C) hcond).1⟩
    obtain ⟨hokx, hoky⟩ := hokx
    rw [stepK_exec hoky] at h
    cases hy : exec C ops yo st with
    | none => rw [hy] at h; simp at h
    | some p1 =>
      rw [hy] at h
      simp only [Option.bind_some] at h
      have h := ih (fun q hq => hord q (List.mem_cons_of_mem _ hq)) hmem h
      rw [stepK_exec hokx] at h
      cases hx : exec C ops x.2 p1.2 with
      | none => rw [hx] at h; simp at h
      | some p2 =>
        rw [hx] at h
        simp only [Option.bind_some] at h
        obtain ⟨q1, e1, e2⟩ := exec_swap hsw hy hx
        rw [stepK_exec hokx, e1]
        simp only [Option.bind_some, List.cons_append, runD]
        rw [bif_some]
        refine ⟨?_, ?_⟩
        · simp only [Bool.and_eq_true]
          refine ⟨hb.1, dynAll_spec.2 fun q hq => ?_⟩
          have hq' : q ∈ p ++ x :: s := by
            simp only [List.mem_append, List.mem_cons] at hq ⊢
            rcases hq with hq | hq
            · exact .inl hq
            · exact .inr (.inr hq)
          rcases hall q hq' with h1 | h1 | h1
          · exact .inl h1
          · exact .inr (.inl h1)
          · exact .inr (.inr (swap_stable hsw e1 hmem h1))
        · rw [stepK_exec hoky, e2]
          simp only [Option.bind_some]
          rw [← updS_comm hsw]; exact h

end
end Go.PS
end

section
namespace Go.PS
open Go.RowKit
section
variable {P : Program} {C : Ctx} {W0 : World} {R : Type} {kp : DV → List PObj → Option R} {k : St → Option R} {r : R} {Q : Exit → Act → World → Prop} {app two : Bool} {arr : Array Oper}

theorem setL {l : Array Bool} {i j : Nat} {d : Bool} (hi : i < l.size) : (l.setIfInBounds i true).getD j d = if j = i then true else l.getD j d := by
  by_cases e : j = i
  · subst e; simp [hi]
  · simp [Ne.symm e, e]

structure Left (arr : Array Oper) (listed : Array Bool) (L : List (Nat × Oper)) : Prop where
  size : listed.size = arr.size
  mem : ∀ q ∈ L, arr[q.1]? = some q.2 ∧ listed.getD q.1 true = false
  all : ∀ j o, arr[j]? = some o → listed.getD j true = false → (j, o) ∈ L
  sorted : L.Pairwise fun q q' => q.1 < q'.1
  closed : ∀ j o, arr[j]? = some o → listed.getD j true = true → ∀ e ∈ o.after.toList, Region.binds .any e = true → listed.getD e.on false = true

theorem getD_lt {l : Array Bool} {j : Nat} (h : l.getD j false = true) : j < l.size := by
  by_cases hl : j < l.size
  · exact hl
  · simp [Array.getD, hl] at h

theorem getD_same {l : Array Bool} {j : Nat} (h : j < l.size) (d d' : Bool) : l.getD j d = l.getD j d' := by simp [Array.getD, h]

theorem ready_iff {listed : Array Bool} {i : Nat} : i ∈ Region.ready .any arr listed ↔ i < arr.size ∧ listed.getD i true = false ∧ ∃ o, arr[i]? = some o ∧ ∀ e ∈ o.after.toList, Region.binds .any e = true → listed.getD e.on false = true := by
  unfold Region.ready
  simp only [List.mem_filter, List.mem_range, Bool.and_eq_true, Bool.not_eq_true']
  constructor
  · rintro ⟨h1, h2, h3⟩
    refine ⟨h1, h2, arr[i], by simp [h1], ?_⟩
    rw [Array.getElem?_eq_getElem h1] at h3
    simp only [Option.map_some, Option.getD_some, Array.all_eq_true_iff_forall_mem, Bool.or_eq_true, Bool.not_eq_true'] at h3
    intro e he hb
    rcases h3 e (by simpa using he) with h | h
    · rw [hb] at h; simp at h
    · exact h
  · rintro ⟨h1, h2, o, h3, h4⟩
    refine ⟨h1, h2, ?_⟩
    rw [h3]
    simp only [Option.map_some, Option.getD_some, Array.all_eq_true_iff_forall_mem, Bool.or_eq_true, Bool.not_eq_true']
    intro e he
    cases hb : Region.binds .any e
    · exact .inl rfl
    · exact .inr (h4 e (by simpa using he) hb)

theorem Left.take {listed : Array Bool} {p s : List (Nat × Oper)} {i : Nat} {o : Oper} (h : Left arr listed (p ++ (i, o) :: s)) (hr : ∀ e ∈ o.after.toList, Region.binds .any e = true → listed.getD e.on false = true) :
    Left arr (listed.setIfInBounds i true) (p ++ s) := by
  have hio := h.mem (i, o) (by simp)
  have hi : i < listed.size := by
    rw [h.size]
    exact (Array.getElem?_eq_some_iff.1 hio.1).1
  have hne : ∀ q ∈ p ++ s, q.1 ≠ i := by
    have := h.sorted
    rw [List.pairwise_append, List.pairwise_cons] at this
    obtain ⟨_, ⟨h2, _⟩, h3⟩ := this
    intro q hq
    rcases List.mem_append.1 hq with hq | hq
    · have := h3 q hq (i, o) (by simp); simp at this; omega
    · have := h2 q hq; simp at this; omega
  have hsub : ∀ q ∈ p ++ s, q ∈ p ++ (i, o) :: s := by
    intro q hq
    simp only [List.mem_append, List.mem_cons] at hq ⊢
    rcases hq with hq | hq
    · exact .inl hq
    · exact .inr (.inr hq)
  refine ⟨by simp [h.size], fun q hq => ?_, fun j o' hj hl => ?_, ?_, fun j o' hj hl e he hb => ?_⟩
  · obtain ⟨h1, h2⟩ := h.mem q (hsub q hq)
    exact ⟨h1, by rw [setL hi, if_neg (hne q hq)]; exact h2⟩
  · rw [setL hi] at hl
    by_cases e : j = i
    · rw [if_pos e] at hl; simp at hl
    · rw [if_neg e] at hl
      have := h.all j o' hj hl
      simp only [List.mem_append, List.mem_cons, Prod.mk.injEq] at this ⊢
      rcases this with h1 | ⟨h1, _⟩ | h1
      · exact .inl h1
      · exact absurd h1 e
      · exact .inr h1
  · have := h.sorted
    rw [List.pairwise_append, List.pairwise_cons] at this
    rw [List.pairwise_append]
    exact ⟨this.1, this.2.1.2, fun a ha b hb => this.2.2 a ha b (List.mem_cons_of_mem _ hb)⟩
  · rw [setL hi]
    split
    · rfl
    · by_cases e' : j = i
      · subst e'
        have : o' = o := by rw [hio.1] at hj; simp at hj; exact hj.symm
        subst this
        exact hr e he hb
      · rw [setL hi, if_neg e'] at hl
        exact h.closed j o' hj hl e he hb

theorem hasBit_or {a b i : Nat} (h : hasBit (Nat.lor a b) i = true) : hasBit a i = true ∨ hasBit b i = true := by
  have key : ∀ m, hasBit m i = Nat.testBit m i := by
    intro m
    rw [Nat.testBit_eq_decide_div_mod_eq]
    unfold hasBit
    cases hb : Nat.beq (m / 2 ^ i % 2) 1 with
    | true => simp [Nat.eq_of_beq_eq_true hb]
    | false =>
      simp only [Bool.false_eq, decide_eq_false_iff_not]
      intro e; rw [e] at hb; simp at hb
  rw [key] at h ⊢
  rw [key]
  have h2 : Nat.testBit (a ||| b) i = true := h
  rw [Nat.testBit_or] at h2
  simpa using h2

theorem hasBit_pow {n i : Nat} (h : hasBit (2 ^ n) i = true) : n = i := by
  have : Nat.testBit (2 ^ n) i = true := by
    rw [Nat.testBit_eq_decide_div_mod_eq]
    unfold hasBit at h
    simpa using Nat.eq_of_beq_eq_true h
  rw [Nat.testBit_two_pow] at this
  simpa using this

theorem hasBit_zero (i : Nat) : hasBit 0 i = false := by
  unfold hasBit; rw [Nat.zero_div]; rfl

theorem ordered_false {listed : Array Bool} {L : List (Nat × Oper)} (h : Left arr listed L) {o : Oper} (hr : ∀ e ∈ o.after.toList, Region.binds .any e = true → listed.getD e.on false = true) {q : Nat × Oper} (hq : q ∈ L) : ordered2 arr.toList q.1 o = false := by
  obtain ⟨hq1, hq2⟩ := h.mem q hq
  have hnot : listed.getD q.1 false ≠ true := by
    intro ht
    rw [getD_same (getD_lt ht) false true, hq2] at ht
    simp at ht
  have one : ∀ (acc : List Nat), (∀ j i : Nat, listed.getD j false = true → hasBit (gt 0 acc j) i = true → listed.getD i false = true) → ∀ (l : List Edge), (∀ e ∈ l, Region.binds .any e = true → listed.getD e.on false = true) → ∀ i, hasBit (ancE acc l) i = true → listed.getD i false = true := by
    intro acc hacc l
    induction l with
    | nil => intro _ i hi; simp [ancE, hasBit_zero] at hi
    | cons e l ih =>
      intro hl i hi
      simp only [ancE] at hi
      cases hb : Region.binds .any e with
      | false => rw [hb] at hi; exact ih (fun e' he' => hl e' (List.mem_cons_of_mem _ he')) i (by simpa using hi)
      | true =>
        rw [hb] at hi
        simp only [cond_true] at hi
        have hon := hl e (List.mem_cons_self ..) hb
        rcases hasBit_or hi with hi | hi
        · rcases hasBit_or hi with hi | hi
          · rw [← hasBit_pow hi]; exact hon
          · exact hacc e.on i hon hi
        · exact ih (fun e' he' => hl e' (List.mem_cons_of_mem _ he')) i hi
  have all : ∀ (l : List Oper) (acc : List Nat), (∀ j : Nat, l[j]? = arr[acc.length + j]?) → (∀ j i : Nat, listed.getD j false = true → hasBit (gt 0 acc j) i = true → listed.getD i false = true) →
      ∀ j i : Nat, listed.getD j false = true → hasBit (gt 0 (ancs l acc) j) i = true → listed.getD i false = true := by
    intro l
    induction l with
    | nil => intro acc _ hacc; exact hacc
    | cons c l ih =>
      intro acc hl hacc
      simp only [ancs]
      refine ih (acc ++ [ancE acc c.after.toList]) (fun j => ?_) (fun j i hj hi => ?_)
      · have := hl (j + 1)
        simp only [List.getElem?_cons_succ] at this
        rw [this]; congr 1; simp; omega
      · rw [gt_eq] at hi
        by_cases hlt : j < acc.length
        · rw [List.getElem?_append_left hlt] at hi
          exact hacc j i hj (by rw [gt_eq]; exact hi)
        · rw [List.getElem?_append_right (by omega)] at hi
          by_cases e : j = acc.length
          · subst e
            simp only [Nat.sub_self, List.getElem?_cons_zero, Option.getD_some] at hi
            have hc : arr[acc.length]? = some c := by have := hl 0; simpa using this.symm
            refine one acc hacc c.after.toList (fun e he hb => h.closed acc.length c hc (by rw [getD_same (getD_lt hj) true false]; exact hj) e he hb) i hi
          · rw [List.getElem?_eq_none (by simp; omega)] at hi
            simp [hasBit_zero] at hi
  unfold ordered2
  simp only [Bool.or_eq_false_iff]
  constructor
  · unfold ordered1
    rw [List.any_eq_false]
    intro e he hb
    simp only [Bool.and_eq_true] at hb
    have := hr e he hb.1
    rw [Nat.eq_of_beq_eq_true hb.2] at this
    exact hnot this
  · cases hb : hasBit (ancE (ancs arr.toList []) o.after.toList) q.1 with
    | false => rfl
    | true => exact absurd (one _ (all arr.toList [] (fun j => by simp) (fun j i _ hi => by simp [gt, hasBit_zero] at hi)) _ hr _ hb) hnot

theorem without_eq (i : Nat) : ∀ l : List (Nat × Oper), (∀ q ∈ l, q.1 ≠ i) → without i l = l := by
  intro l
  induction l with
  | nil => intro _; rfl
  | cons q l ih =>
    intro h
    have : Nat.beq q.1 i = false := by
      cases hb : Nat.beq q.1 i
      · rfl
      · exact absurd (Nat.eq_of_beq_eq_true hb) (h q (by simp))
    simp only [without, this, cond_false, ih fun q hq => h q (List.mem_cons_of_mem _ hq)]

theorem without_append (i : Nat) : ∀ l m : List (Nat × Oper), without i (l ++ m) = without i l ++ without i m := by
  intro l m
  induction l with
  | nil => rfl
  | cons q l ih => simp only [List.cons_append, without, ih]; cases Nat.beq q.1 i <;> rfl

theorem without_mid {i : Nat} {o : Oper} {p s : List (Nat × Oper)} (h : ∀ q ∈ p ++ s, q.1 ≠ i) : without i (p ++ (i, o) :: s) = p ++ s := by
  rw [without_append, without_eq i p fun q hq => h q (by simp [hq])]
  simp only [without, Nat.beq_refl, cond_true]
  rw [without_eq i s fun q hq => h q (by simp [hq])]

theorem without_mem {i : Nat} {q : Nat × Oper} : ∀ {l : List (Nat × Oper)}, q ∈ without i l ↔ q ∈ l ∧ q.1 ≠ i := by
  intro l
  induction l with
  | nil => simp [without]
  | cons x l ih =>
    simp only [without]
    cases hb : Nat.beq x.1 i
    · simp only [cond_false, List.mem_cons, ih]
      constructor
      · rintro (rfl | h)
        · exact ⟨.inl rfl, by rintro e; rw [e] at hb; simp at hb⟩
        · exact ⟨.inr h.1, h.2⟩
      · rintro ⟨rfl | h, h2⟩
        · exact .inl rfl
        · exact .inr ⟨h, h2⟩
    · simp only [cond_true, List.mem_cons, ih]
      have := Nat.eq_of_beq_eq_true hb
      constructor
      · rintro ⟨h1, h2⟩; exact ⟨.inr h1, h2⟩
      · rintro ⟨rfl | h, h2⟩
        · exact absurd this h2
        · exact ⟨h, h2⟩

theorem before_mem {i : Nat} {x q : Nat × Oper} : ∀ {l : List (Nat × Oper)}, q ∈ before i x l → q = x ∨ q ∈ l := by
  intro l
  induction l with
  | nil => simp [before]
  | cons y l ih =>
    simp only [before]
    cases Nat.beq y.1 i
    · simp only [cond_false, List.mem_cons]
      rintro (h | h)
      · exact .inr (.inl h)
      · rcases ih h with h | h
        · exact .inl h
        · exact .inr (.inr h)
    · simp only [cond_true, List.mem_cons]
      rintro (h | h | h)
      · exact .inl h
      · exact .inr (.inl h)
      · rcases ih h with h | h
        · exact .inl h
        · exact .inr (.inr h)

theorem without_comm (i j : Nat) : ∀ l : List (Nat × Oper), without i (without j l) = without j (without i l) := by
  intro l
  induction l with
  | nil => rfl
  | cons q l ih =>
    simp only [without]
    cases h1 : Nat.beq q.1 j <;> cases h2 : Nat.beq q.1 i <;> simp only [cond_true, cond_false, without, h1, h2, ih]

theorem without_before {i a : Nat} {x : Nat × Oper} (h1 : x.1 ≠ i) (h2 : a ≠ i) : ∀ l : List (Nat × Oper), without i (before a x l) = before a x (without i l) := by
  intro l
  have hx : Nat.beq x.1 i = false := by
    cases hb : Nat.beq x.1 i
    · rfl
    · exact absurd (Nat.eq_of_beq_eq_true hb) h1
  induction l with
  | nil => rfl
  | cons q l ih =>
    simp only [before, without]
    cases ha : Nat.beq q.1 a <;> cases hi : Nat.beq q.1 i
    · simp only [cond_false, without, hi, before, ha, ih]
    · simp only [cond_false, cond_true, without, hi, ih]
    · simp only [cond_false, cond_true, without, hi, hx, before, ha, ih]
    · have e1 := Nat.eq_of_beq_eq_true ha
      have e2 := Nat.eq_of_beq_eq_true hi
      exact absurd (e1.symm.trans e2) h2

theorem allocs_without_ne {i : Nat} : ∀ {l : List (Nat × Oper)}, (∀ q ∈ l, q.1 = i → isAlloc q.2.op = false) → allocs (without i l) = allocs l := by
  intro l
  induction l with
  | nil => intro _; rfl
  | cons q l ih =>
    intro h
    have ih := ih fun q hq => h q (List.mem_cons_of_mem _ hq)
    simp only [without, allocs]
    cases hb : Nat.beq q.1 i
    · simp only [cond_false, allocs, ih]
    · rw [h q (by simp) (Nat.eq_of_beq_eq_true hb)]
      simp only [cond_true, cond_false, ih]

theorem allocs_append (l m : List (Nat × Oper)) : allocs (l ++ m) = allocs l ++ allocs m := by
  induction l with
  | nil => rfl
  | cons q l ih => simp only [List.cons_append, allocs, ih]; cases isAlloc q.2.op <;> rfl

theorem allocs_mem {q : Nat × Oper} : ∀ {l : List (Nat × Oper)}, q ∈ allocs l ↔ q ∈ l ∧ isAlloc q.2.op = true := by
  intro l
  induction l with
  | nil => simp [allocs]
  | cons x l ih =>
    simp only [allocs]
    cases hb : isAlloc x.2.op
    · simp only [cond_false, ih, List.mem_cons]
      constructor
      · rintro ⟨h1, h2⟩; exact ⟨.inr h1, h2⟩
      · rintro ⟨rfl | h1, h2⟩
        · rw [hb] at h2; simp at h2
        · exact ⟨h1, h2⟩
    · simp only [cond_true, List.mem_cons, ih]
      constructor
      · rintro (rfl | h)
        · exact ⟨.inl rfl, hb⟩
        · exact ⟨.inr h.1, h.2⟩
      · rintro ⟨rfl | h1, h2⟩
        · exact .inl rfl
        · exact .inr ⟨h1, h2⟩

theorem allOk_mem : ∀ {l : List Oper}, allOk C l = true → ∀ o ∈ l, okOp C o.op = true := by
  intro l
  induction l with
  | nil => intro _ o ho; simp at ho
  | cons x l ih =>
    intro h o ho
    simp only [allOk, Bool.and_eq_true] at h
    rcases List.mem_cons.1 ho with rfl | ho
    · exact h.1
    · exact ih h.2 o ho

/-- the other way, if two places are still to be made -/
def Alt (C : Ctx) (arr : Array Oper) (app two : Bool) (kp : DV → List PObj → Option R) (k : St → Option R) (r : R) (L : List (Nat × Oper)) (sy : Sy) (st : St) : Prop :=
  two = true → allOk C arr.toList = true ∧ (allocs L).length ≤ 2 ∧ ∀ L2, altOrder L = some L2 → runD C arr.toList app two kp k L2 sy st = some r

open Classical in
/-- a ready operation, taken first -/
theorem take_both {listed : Array Bool} {L : List (Nat × Oper)} {i : Nat} {oi : Oper} {sy : Sy} {st : St} (hL : Left arr listed L) (hm : (i, oi) ∈ L) (hr : ∀ e ∈ oi.after.toList, Region.binds .any e = true → listed.getD e.on false = true)
    (h : runD C arr.toList app two kp k L sy st = some r) (h2 : Alt C arr app two kp k r L sy st) :
    stepK C arr.toList app kp oi sy st (fun sy' st' => if Alt C arr app two kp k r (without i L) sy' st' then runD C arr.toList app two kp k (without i L) sy' st' else none) = some r := by
  have hmem : oi ∈ arr.toList := by
    have := Array.mem_of_getElem? (hL.mem _ hm).1
    simpa using this
  have hidx : ∀ q ∈ L, q.1 = i → q = (i, oi) := by
    intro q hq e
    have h1 := (hL.mem q hq).1
    have h3 := (hL.mem _ hm).1
    obtain ⟨j, o⟩ := q
    simp only at e; subst e
    simp only at h1 h3
    rw [h1] at h3; simp at h3; rw [h3]
  obtain ⟨p, s, hps⟩ := List.append_of_mem hm
  have hL' := hL
  rw [hps] at hL'
  have hne : ∀ q ∈ p ++ s, q.1 ≠ i := by
    have := hL'.sorted
    rw [List.pairwise_append, List.pairwise_cons] at this
    obtain ⟨_, ⟨h2, _⟩, h3⟩ := this
    intro q hq
    rcases List.mem_append.1 hq with hq | hq
    · have := h3 q hq (i, oi) (by simp); simp at this; omega
    · have := h2 q hq; simp at this; omega
  have hwo : without i L = p ++ s := by rw [hps]; exact without_mid hne
  cases htwo : two with
  | false =>
    subst htwo
    have htk := runD_take (two := false) p (x := (i, oi)) (s := s) (fun q hq => ⟨ordered_false hL hr (by rw [hps]; simp [hq]), fun h => by cases h⟩) hmem (by rw [← hps]; exact h)
    have : (fun sy' st' => if Alt C arr app false kp k r (without i L) sy' st' then runD C arr.toList app false kp k (without i L) sy' st' else none) = fun sy' st' => runD C arr.toList app false kp k (p ++ s) sy' st' := by
      funext sy' st'
      rw [if_pos (by intro h; simp at h), hwo]
    rw [this]; exact htk
  | true =>
    subst htwo
    obtain ⟨hok, hlen, halt⟩ := h2 rfl
    have hoki := allOk_mem hok oi hmem
    by_cases hal : ∃ q ∈ p, isAlloc q.2.op = true ∧ isAlloc oi.op = true
    · -- the second one first
      obtain ⟨q, hq, hq1, hq2⟩ := hal
      have hA : allocs L = allocs p ++ (i, oi) :: allocs s := by
        rw [hps, allocs_append]; simp only [allocs, hq2, cond_true]
      have hp1 : allocs p ≠ [] := by
        intro e
        have := allocs_mem.2 ⟨hq, hq1⟩
        rw [e] at this; simp at this
      obtain ⟨a, la, hpa⟩ := List.exists_cons_of_ne_nil hp1
      have hlen' : la = [] ∧ allocs s = [] := by
        rw [hA, hpa] at hlen
        simp at hlen
        exact ⟨List.length_eq_zero_iff.1 (by omega), List.length_eq_zero_iff.1 (by omega)⟩
      obtain ⟨rfl, hs0⟩ := hlen'
      have hA2 : allocs L = [a, (i, oi)] := by rw [hA, hpa, hs0]; rfl
      have hL2 : altOrder L = some (before a.1 (i, oi) (without i L)) := by unfold altOrder; rw [hA2]
      have hrun := halt _ hL2
      rw [hwo] at hrun
      have ha : a ∈ p := (allocs_mem.1 (by rw [hpa]; simp : a ∈ allocs p)).1
      -- where it lands
      obtain ⟨p1, p2, hp⟩ := List.append_of_mem ha
      have hap1 : ∀ q ∈ p1, isAlloc q.2.op = false := by
        intro q hq
        cases hb : isAlloc q.2.op with
        | false => rfl
        | true =>
          have := hpa
          rw [hp, allocs_append] at this
          have hmq := allocs_mem.2 ⟨hq, hb⟩
          have haa : isAlloc a.2.op = true := (allocs_mem.1 (by rw [hpa]; simp : a ∈ allocs p)).2
          simp only [allocs, haa, cond_true] at this
          have hl := congrArg List.length this
          simp at hl
          have : allocs p1 = [] := List.length_eq_zero_iff.1 (by omega)
          rw [this] at hmq; simp at hmq
      have hsorted := hL'.sorted
      have hbefore : before a.1 (i, oi) (p ++ s) = p1 ++ (i, oi) :: a :: (p2 ++ s) := by
        have hstep : ∀ l : List (Nat × Oper), (∀ q ∈ l, q.1 ≠ a.1) → ∀ m, before a.1 (i, oi) (l ++ m) = l ++ before a.1 (i, oi) m := by
          intro l
          induction l with
          | nil => intro _ m; rfl
          | cons q l ih =>
            intro h m
            have : Nat.beq q.1 a.1 = false := by
              cases hb : Nat.beq q.1 a.1
              · rfl
              · exact absurd (Nat.eq_of_beq_eq_true hb) (h q (by simp))
            simp only [List.cons_append, before, this, cond_false, ih fun q hq => h q (List.mem_cons_of_mem _ hq)]
        have hid : ∀ l : List (Nat × Oper), (∀ q ∈ l, q.1 ≠ a.1) → before a.1 (i, oi) l = l := by
          intro l h
          have := hstep l h []
          simpa [before] using this
        have hps2 : (p1 ++ a :: (p2 ++ (i, oi) :: s)).Pairwise fun q q' => q.1 < q'.1 := by
          rw [hp] at hsorted; simpa using hsorted
        rw [List.pairwise_append, List.pairwise_cons] at hps2
        obtain ⟨_, ⟨k2, _⟩, k3⟩ := hps2
        rw [hp, List.append_assoc, hstep p1 fun q hq => by have := k3 q hq a (by simp); omega]
        simp only [List.cons_append, before, Nat.beq_refl, cond_true]
        rw [hid (p2 ++ s) fun q hq => by
          have hm : q ∈ p2 ++ (i, oi) :: s := by
            simp only [List.mem_append, List.mem_cons] at hq ⊢
            rcases hq with hq | hq
            · exact .inl hq
            · exact .inr (.inr hq)
          have := k2 q hm; omega]
      rw [hbefore] at hrun
      have htk := runD_take p1 (x := (i, oi)) (s := a :: (p2 ++ s)) (fun q hq => ⟨ordered_false hL hr (by rw [hps, hp]; simp [hq]), fun _ hb => by rw [hap1 q hq] at hb; simp at hb⟩) hmem hrun
      have hE : p1 ++ a :: (p2 ++ s) = without i L := by rw [hwo, hp]; simp
      rw [hE] at htk
      have : (fun sy' st' => if Alt C arr app true kp k r (without i L) sy' st' then runD C arr.toList app true kp k (without i L) sy' st' else none) = fun sy' st' => runD C arr.toList app true kp k (without i L) sy' st' := by
        funext sy' st'
        have hA3 : allocs (without i L) = [a] := by
          rw [hwo, allocs_append, hpa, hs0]; rfl
        rw [if_pos]
        intro _
        refine ⟨hok, by rw [hA3]; simp, fun L2 hL2 => ?_⟩
        unfold altOrder at hL2
        rw [hA3] at hL2
        simp at hL2
      rw [this]; exact htk
    · have htk := runD_take p (x := (i, oi)) (s := s) (fun q hq => ⟨ordered_false hL hr (by rw [hps]; simp [hq]), fun _ hb => by
          cases hb2 : isAlloc oi.op with
          | false => rfl
          | true => exact absurd ⟨q, hq, hb, hb2⟩ hal⟩) hmem (by rw [← hps]; exact h)
      rw [stepK_exec hoki] at htk ⊢
      cases hex : exec C arr.toList oi st with
      | none => rw [hex] at htk; simp at htk
      | some p1 =>
        rw [hex] at htk
        simp only [Option.bind_some] at htk ⊢
        rw [if_pos, hwo]
        · exact htk
        · intro _
          refine ⟨hok, ?_, fun L2 hL2 => ?_⟩
          · rw [hwo]
            have : (allocs (p ++ s)).length ≤ (allocs L).length := by
              rw [hps, allocs_append, allocs_append]
              simp only [allocs]
              cases isAlloc oi.op <;> simp
            omega
          · -- an alternative is left: what is taken is no alloc
            have hna : isAlloc oi.op = false := by
              cases hb : isAlloc oi.op with
              | false => rfl
              | true =>
                exfalso
                unfold altOrder at hL2
                split at hL2
                · rename_i a b hab
                  have : (allocs L).length = 3 := by
                    rw [hwo, allocs_append] at hab
                    rw [hps, allocs_append]
                    simp only [allocs, hb, cond_true]
                    have := congrArg List.length hab
                    simp at this ⊢; omega
                  omega
                · simp at hL2
            have hal2 : allocs (without i L) = allocs L := allocs_without_ne fun q hq e => by rw [hidx q hq e]; exact hna
            unfold altOrder at hL2
            rw [hal2] at hL2
            split at hL2
            · rename_i a b hab
              simp at hL2; subst hL2
              have ha : a ∈ L ∧ isAlloc a.2.op = true := allocs_mem.1 (by rw [hab]; simp)
              have hb : b ∈ L ∧ isAlloc b.2.op = true := allocs_mem.1 (by rw [hab]; simp)
              have hai : a.1 ≠ i := fun e => by rw [hidx a ha.1 e, hna] at ha; simp at ha
              have hbi : b.1 ≠ i := fun e => by rw [hidx b hb.1 e, hna] at hb; simp at hb
              have hrun := halt (before a.1 b (without b.1 L)) (by unfold altOrder; rw [hab])
              have hmi : (i, oi) ∈ before a.1 b (without b.1 L) := by
                have hmem2 : ∀ l : List (Nat × Oper), (i, oi) ∈ l → (i, oi) ∈ before a.1 b l := by
                  intro l
                  induction l with
                  | nil => intro h; simp at h
                  | cons q l ih =>
                    intro h
                    simp only [before]
                    rcases List.mem_cons.1 h with h | h
                    · subst h; cases Nat.beq _ a.1 <;> simp
                    · cases Nat.beq q.1 a.1 <;> simp [ih h]
                exact hmem2 _ (without_mem.2 ⟨hm, fun e => hbi e.symm⟩)
              obtain ⟨p2, s2, hp2⟩ := List.append_of_mem hmi
              have hin : ∀ q ∈ before a.1 b (without b.1 L), q ∈ L := by
                intro q hq
                rcases before_mem hq with e | e
                · rw [e]; exact hb.1
                · exact (without_mem.1 e).1
              have htk2 := runD_take p2 (x := (i, oi)) (s := s2) (fun q hq => ⟨ordered_false hL hr (hin q (by rw [hp2]; simp [hq])), fun _ _ => hna⟩) hmem (by rw [← hp2]; exact hrun)
              rw [stepK_exec hoki, hex] at htk2
              simp only [Option.bind_some] at htk2
              have hcount : without i (before a.1 b (without b.1 L)) = p2 ++ s2 := by
                rw [hp2]
                refine without_mid fun q hq => ?_
                -- each number stands once
                have hnd : ∀ l : List (Nat × Oper), (l.map (·.1)).Nodup → b.1 ∉ l.map (·.1) → ((before a.1 b l).map (·.1)).Nodup := by
                  intro l
                  induction l with
                  | nil => intro _ _; simp [before]
                  | cons q l ih =>
                    intro h1 h2
                    simp only [List.map_cons, List.nodup_cons, List.mem_cons, not_or] at h1 h2
                    have ih := ih h1.2 h2.2
                    have hsub : ∀ t, t ∈ (before a.1 b l).map (·.1) → t = b.1 ∨ t ∈ l.map (·.1) := by
                      intro t ht
                      obtain ⟨z, hz, rfl⟩ := List.mem_map.1 ht
                      rcases before_mem hz with e | e
                      · rw [e]; exact .inl rfl
                      · exact .inr (List.mem_map.2 ⟨z, e, rfl⟩)
                    simp only [before]
                    cases hqa : Nat.beq q.1 a.1
                    · simp only [cond_false, List.map_cons, List.nodup_cons]
                      refine ⟨fun h => ?_, ih⟩
                      rcases hsub _ h with e | e
                      · exact h2.1 e.symm
                      · exact h1.1 e
                    · have hq := Nat.eq_of_beq_eq_true hqa
                      have hid : before a.1 b l = l := by
                        have : ∀ m : List (Nat × Oper), a.1 ∉ m.map (·.1) → before a.1 b m = m := by
                          intro m
                          induction m with
                          | nil => intro _; rfl
                          | cons z m ih =>
                            intro h
                            simp only [List.map_cons, List.mem_cons, not_or] at h
                            have : Nat.beq z.1 a.1 = false := by
                              cases hb : Nat.beq z.1 a.1
                              · rfl
                              · exact absurd (Nat.eq_of_beq_eq_true hb).symm h.1
                            simp only [before, this, cond_false, ih h.2]
                        exact this l (by rw [← hq]; exact h1.1)
                      rw [hid]
                      simp only [cond_true, List.map_cons, List.nodup_cons, List.mem_cons, not_or]
                      exact ⟨⟨h2.1, h2.2⟩, h1⟩
                have hLn : (L.map (·.1)).Nodup := by
                  have := hL.sorted
                  rw [List.Nodup, List.pairwise_map]
                  exact this.imp fun h => by omega
                have hwn : ((without b.1 L).map (·.1)).Nodup := by
                  have : ∀ l : List (Nat × Oper), (l.map (·.1)).Nodup → ((without b.1 l).map (·.1)).Nodup := by
                    intro l
                    induction l with
                    | nil => intro _; simp [without]
                    | cons q l ih =>
                      intro h
                      simp only [List.map_cons, List.nodup_cons] at h
                      simp only [without]
                      cases Nat.beq q.1 b.1
                      · simp only [cond_false, List.map_cons, List.nodup_cons]
                        refine ⟨fun h3 => h.1 ?_, ih h.2⟩
                        obtain ⟨z, hz, e⟩ := List.mem_map.1 h3
                        exact List.mem_map.2 ⟨z, (without_mem.1 hz).1, e⟩
                      · simp only [cond_true]; exact ih h.2
                  exact this L hLn
                have hfin := hnd (without b.1 L) hwn (fun h => by
                  obtain ⟨z, hz, e⟩ := List.mem_map.1 h
                  exact (without_mem.1 hz).2 e)
                rw [hp2] at hfin
                simp only [List.map_append, List.map_cons, List.nodup_append, List.nodup_cons, List.mem_cons, List.mem_map] at hfin
                rintro rfl
                rcases List.mem_append.1 hq with hq | hq
                · exact hfin.2.2 q.1 ⟨q, hq, rfl⟩ q.1 (.inl rfl) rfl
                · exact hfin.2.1.1 ⟨q, hq, rfl⟩
              have hkey : before a.1 b (without b.1 (without i L)) = p2 ++ s2 := by
                rw [without_comm b.1 i L, ← without_before hbi hai, hcount]
              rw [hkey]; exact htk2
            · simp at hL2

end
end Go.PS
end

section
namespace Go.PS
open Go.RowKit
section
variable {P : Program} {C : Ctx} {W0 : World} {R : Type} {kp : DV → List PObj → Option R} {k : St → Option R} {r : R} {Q : Exit → Act → World → Prop} {app two : Bool} {arr : Array Oper}

theorem ite_some {c : Prop} {inst : Decidable c} {x : Option R} (h : (if c then x else none) = some r) : c ∧ x = some r := by
  split at h
  · rename_i hc; exact ⟨hc, h⟩
  · simp at h

theorem runD_any (hC : TyOk P C) (hE : EnvOk P W0 C) : ∀ (fuel : Nat) {listed : Array Bool} {L : List (Nat × Oper)} {sy : Sy} {st : St} {a : Act} {o : Own} {sig : List Nat} {w : World}, Left arr listed L → L.length ≤ fuel →
    Rel W0 o sig st a.tmps w → Syn a w sy → (app = false → sy = noSy) →
    (∀ a' st' o' sig' w', k st' = some r → Rel W0 o' sig' st' a'.tmps w' → Step o w o' w' → SigExt sig sig' → Kept arr.toList a a' → Q .normal a' w') →
    (∀ a' v x hp' o' sig' w', kp v hp' = some r → Enc o' w' v x → RelH o' sig' hp' w' → Gl W0 o' w' → Step o w o' w' → SigExt sig sig' → Kept arr.toList a a' → Q (.panic [{ v := x, recovered := false }]) a' w') →
    runD C arr.toList app two kp k L sy st = some r → Alt C arr app two kp k r L sy st → wpAny P .any arr Q fuel listed a w := by
  intro fuel
  induction fuel with
  | zero =>
    intro listed L sy st a o sig w hL hlen hr hsy happ hk hp h halt
    have : L = [] := List.length_eq_zero_iff.1 (by omega)
    subst this
    refine ⟨?_, hk _ _ _ _ _ h hr (.refl _ _) (.refl _) (.refl _ _)⟩
    rw [List.eq_nil_iff_forall_not_mem]
    intro i hi
    obtain ⟨_, h2, o', h3, _⟩ := ready_iff.1 hi
    have := hL.all i o' h3 h2
    simp at this
  | succ fuel ih =>
    intro listed L sy st a o sig w hL hlen hr hsy happ hk hp h halt
    refine ⟨fun hnil => ?_, fun i hi => ?_⟩
    · cases L with
      | nil => exact hk _ _ _ _ _ h hr (.refl _ _) (.refl _) (.refl _ _)
      | cons q L =>
        exfalso
        obtain ⟨i, oi⟩ := q
        obtain ⟨hm1, hm2⟩ := hL.mem (i, oi) (by simp)
        have hlt : i < arr.size := (Array.getElem?_eq_some_iff.1 hm1).1
        simp only [runD] at h
        rw [bif_some] at h
        have hdown := h.1
        simp only [Bool.and_eq_true] at hdown
        have hdown := hdown.1
        have : i ∈ Region.ready .any arr listed := by
          rw [ready_iff]
          refine ⟨hlt, hm2, oi, hm1, fun e he hb => ?_⟩
          unfold downB at hdown
          rw [List.all_eq_true] at hdown
          have := hdown e he
          rw [hb] at this
          simp only [Bool.not_true, Bool.false_or] at this
          have hlt' : e.on < i := Nat.le_of_ble_eq_true this
          have hsz : e.on < listed.size := by rw [hL.size]; omega
          rw [getD_same hsz false true]
          cases hc : listed.getD e.on true with
          | true => rfl
          | false =>
            have hmem := hL.all e.on arr[e.on] (by rw [Array.getElem?_eq_getElem (by omega)]) hc
            have hs := hL.sorted
            rw [List.pairwise_cons] at hs
            rcases List.mem_cons.1 hmem with e1 | e1
            · simp at e1; omega
            · have := hs.1 _ e1; simp at this; omega
        rw [hnil] at this; simp at this
    · obtain ⟨hlt, hl, oi, hoi, hedges⟩ := ready_iff.1 hi
      have hmem := hL.all i oi hoi hl
      have hoil : oi ∈ arr.toList := by rw [Array.mem_toList_iff]; exact Array.mem_of_getElem? hoi
      have htake := take_both hL hmem hedges h halt
      have hLw : Left arr (listed.setIfInBounds i true) (without i L) ∧ (without i L).length ≤ fuel := by
        obtain ⟨p, s, hps⟩ := List.append_of_mem hmem
        rw [hps] at hL hlen
        have hne : ∀ q ∈ p ++ s, q.1 ≠ i := by
          have := hL.sorted
          rw [List.pairwise_append, List.pairwise_cons] at this
          obtain ⟨_, ⟨h2, _⟩, h3⟩ := this
          intro q hq
          rcases List.mem_append.1 hq with hq | hq
          · have := h3 q hq (i, oi) (by simp); simp at this; omega
          · have := h2 q hq; simp at this; omega
        rw [hps, without_mid hne]
        exact ⟨hL.take hedges, by simp at hlen ⊢; omega⟩
      obtain ⟨hL', hlen'⟩ := hLw
      unfold stepK at htake
      obtain ⟨st', hr', htake⟩ := guarded_inv hr htake
      unfold wpOp
      rw [hoi]
      dsimp only
      have harr : arr.toList.toArray = arr := by simp
      rw [harr] at htake
      rcases htake with ⟨hw, h⟩ | ⟨hw, h⟩
      · rw [hw, if_pos rfl]
        refine .inl (popK_syn hC hE hr' hsy ⟨?_, ?_⟩ h)
        · intro x st2 o2 sig2 w2 g1 g2 g3 g4 g5
          have g1 := ite_some g1
          refine ih hL' hlen' g2 ?_ ?_ (fun a' st3 o3 sig3 w3 k1 k2 k3 k4 k5 => hk a' st3 o3 sig3 w3 k1 k2 (g3.trans k3) (g4.trans k4) (k5.mem hoil)) (fun a' v x hp' o' sig' w' k1 k2 k3 k4 k5 k6 k7 => hp a' v x hp' o' sig' w' k1 k2 k3 k4 (g3.trans k5) (g4.trans k6) (k7.mem hoil)) g1.2 g1.1
          · cases app with
            | true => exact g5
            | false => rw [happ rfl]; exact .nil
          · rintro rfl; exact happ rfl
        · intro v x hp' o' sig' w' k1 k2 k3 k4 k5 k6
          exact hp a v x hp' o' sig' w' k1 k2 k3 k4 k5 k6 (.refl _ _)
      · rw [hw, if_neg (by simp)]
        have h := ite_some h
        refine ih hL' hlen' (hr'.put (x := undef) (v := .skp) .skp fun d _ k => cap_cmp_noOwn (v := .skp) trivial (by simp) k) ?_ ?_
          (fun a' st3 o3 sig3 w3 k1 k2 k3 k4 k5 => hk a' st3 o3 sig3 w3 k1 k2 k3 k4 (k5.mem hoil)) (fun a' v x hp' o' sig' w' k1 k2 k3 k4 k5 k6 k7 => hp a' v x hp' o' sig' w' k1 k2 k3 k4 k5 k6 (k7.mem hoil)) h.2 h.1
        · cases app with
          | true => exact hsy.drop (d := oi.dst) (x := undef) fun _ _ _ h => h
          | false => rw [happ rfl]; exact .nil
        · rintro rfl; exact happ rfl

theorem numbered_get : ∀ (l : List Oper) (n : Nat), (∀ q ∈ numbered n l, n ≤ q.1 ∧ l[q.1 - n]? = some q.2) ∧ (∀ (j : Nat) o, l[j]? = some o → (n + j, o) ∈ numbered n l) ∧ (numbered n l).Pairwise (fun q q' => q.1 < q'.1) ∧ (numbered n l).length = l.length := by
  intro l
  induction l with
  | nil => intro n; simp [numbered]
  | cons o l ih =>
    intro n
    obtain ⟨h1, h2, h3, h4⟩ := ih (n + 1)
    refine ⟨fun q hq => ?_, fun j o' hj => ?_, ?_, by simp [numbered, h4]⟩
    · simp only [numbered, List.mem_cons] at hq
      rcases hq with rfl | hq
      · simp
      · obtain ⟨e1, e2⟩ := h1 q hq
        refine ⟨by omega, ?_⟩
        rw [show q.1 - n = q.1 - (n + 1) + 1 by omega, List.getElem?_cons_succ]; exact e2
    · cases j with
      | zero => simp at hj; subst hj; simp [numbered]
      | succ j =>
        have := h2 j o' (by simpa using hj)
        simp only [numbered, List.mem_cons]
        rw [show n + (j + 1) = n + 1 + j by omega]
        exact .inr this
    · simp only [numbered, List.pairwise_cons]
      exact ⟨fun q hq => by have := (h1 q hq).1; omega, h3⟩

theorem left_start : Left arr (Array.replicate arr.size false) (numbered 0 arr.toList) := by
  obtain ⟨h1, h2, h3, h4⟩ := numbered_get arr.toList 0
  have hf : ∀ j, (Array.replicate arr.size false).getD j false = false := by
    intro j; by_cases h : j < arr.size <;> simp [Array.getD, h]
  refine ⟨by simp, fun q hq => ?_, fun j o hj _ => by have := h2 j o (by simpa using hj); simpa using this, h3, fun j o hj hl => ?_⟩
  · have := (h1 q hq).2
    have this : arr[q.1]? = some q.2 := by simpa using this
    refine ⟨this, ?_⟩
    have hlt := (Array.getElem?_eq_some_iff.1 this).1
    simp [Array.getD, hlt]
  · have hlt := (Array.getElem?_eq_some_iff.1 hj).1
    simp [Array.getD, hlt] at hl

/-- a region whose order is drawn -/
theorem runD_sound (hC : TyOk P C) (hE : EnvOk P W0 C) (hm : P.follows .mixedOrders = true) {id : Nat} {st : St} {a : Act} {o : Own} {sig : List Nat} {w : World} (hr : Rel W0 o sig st a.tmps w)
    (hk : ∀ a' st' o' sig' w', k st' = some r → Rel W0 o' sig' st' a'.tmps w' → Step o w o' w' → SigExt sig sig' → Kept arr.toList a a' → Q .normal a' w')
    (hp : ∀ a' v x hp' o' sig' w', kp v hp' = some r → Enc o' w' v x → RelH o' sig' hp' w' → Gl W0 o' w' → Step o w o' w' → SigExt sig sig' → Kept arr.toList a a' → Q (.panic [{ v := x, recovered := false }]) a' w')
    (h : drawK C arr.toList kp k st = some r) : (Code.region id arr true).wp P Q a w := by
  have hg : Grow o w o { w with drawn := w.drawn + 1 } := ⟨rfl, rfl, rfl, Nat.le_refl _, fun _ _ => ⟨rfl, rfl⟩, hr.gl.fin⟩
  have key : ∀ two, runD C arr.toList (hasApp arr.toList) two kp k (numbered 0 arr.toList) noSy st = some r → Alt C arr (hasApp arr.toList) two kp k r (numbered 0 arr.toList) noSy st → (Code.region id arr true).wp P Q a w := by
    intro two h h2
    refine wp_region_any hm ?_
    refine runD_any (app := hasApp arr.toList) hC hE _ left_start (by rw [(numbered_get arr.toList 0).2.2.2]; simp) (hr.grow hg) .nil (fun _ => rfl) ?_ ?_ h h2
    · intro a' st' o' sig' w' h1 h2 h3 h4 h5
      exact hk a' st' o' sig' w' h1 h2 (hg.step.trans h3) h4 h5
    · intro a' v x hp' o' sig' w' h1 h2 h3 h4 h5 h6 h7
      exact hp a' v x hp' o' sig' w' h1 h2 h3 h4 (hg.step.trans h5) h6 h7
  unfold drawK at h
  split at h
  · exact key false h (fun h => by simp at h)
  · rename_i l hl
    rw [bif_none_some] at h
    obtain ⟨hok, h⟩ := h
    unfold amb at h
    split at h
    · rename_i heq
      refine key true h fun _ => ⟨by simpa using hok, ?_, fun L2 hL2 => ?_⟩
      · unfold altOrder at hl
        split at hl
        · rename_i x y hxy; rw [hxy]; simp
        · simp at hl
      · rw [hl] at hL2
        simp at hL2; subst hL2
        rw [← heq]; exact h
    · simp at h

end
end Go.PS
end
