/- A part of the proof of the claim (the pure semantics PS and the contracts of the functions over it). -/
import Derived.Test.YtihpkebhgkfiaaaDoorPsC
import Derived.ChangeSlices
import Derived.ChangeArms
import Derived.Carry
set_option linter.all false
section
namespace Go.PS
open Go.ChangeShapes Go.WideShapes
/-- fields one behind another -/
def laidF (P : Program) : Nat → List Field → Option Nat
  | n, [] => some n
  | n, f :: l => if f.offset = n then laidF P (n + P.cellsOf f.type) l else none
/-- a type of numbers, truths, texts, and structs and slices of these -/
def plainT (P : Program) (ts : List TypeId) (t : TypeId) : Bool :=
  match P.underlying t with
  | some .bool | some (.int _) | some .string => true
  | some (.slice e) => ts.contains e && decide (0 < P.cellsOf e)
  | some (.struct fs) => (laidF P 0 fs.toList == some (P.cellsOf t)) && fs.toList.all fun f => ts.contains f.type
  | _ => false
def isAgg : DV → Bool
  | .agg _ => true
  | _ => false
def isStruct (P : Program) (t : TypeId) : Bool := match P.underlying t with | some (.struct _) => true | _ => false
/-- data of a type, to a depth -/
def tyV (P : Program) : Nat → TypeId → List DV → Prop
  | 0, _, _ => False
  | n + 1, t, ds => match P.underlying t with
    | some .bool => ∃ b, ds = [.bool b]
    | some (.int k) => ∃ m, ds = [.int k m] ∧ (Lit.int k m).wf = true
    | some .string => ∃ s, ds = [.str s] ∧ s.length ≤ maxLen
    | some (.slice e) => ∃ vs, ds = [.slc (P.cellsOf e) vs] ∧ vs.length ≤ maxLen ∧ ∀ v ∈ vs, isAgg v = isStruct P e ∧ tyV P n e v.cells
    | some (.struct fs) => ds.length = P.cellsOf t ∧ ∀ f ∈ fs.toList, tyV P n f.type ((ds.drop f.offset).take (P.cellsOf f.type))
    | _ => False
section
variable {H : Type} {enc : TypeId × Value → H} {P : Program} {w : World} {base : Nat} {held : Bool}
def bareO : Own := fun _ => none
theorem sc_cells {o : Own} {w : World} {d : DV} {c : Value} (hs : d.scalar = true) (h : Enc o w d c) : c.cells = #[c] := by
  cases h <;> first | rfl | (simp [DV.scalar] at hs)
theorem append_encL {o : Own} {w : World} {vs xs us ys} (h : EncL o w vs xs) (h2 : EncL o w us ys) : EncL o w (vs ++ us) (xs ++ ys) := by
  match h with
  | .nil => exact h2
  | .cons hh t => exact .cons hh (append_encL t h2)
theorem open_fields (W : World) (n : Nat) {ts : List TypeId}
    (ih : ∀ (t : TypeId) (cs : List Value) (x : DataW H × List MemPlace), ts.contains t = true → DataW.trod enc P W base (fun _ => true) held n t cs = some x → ∃ ds, EncL bareO W ds cs ∧ (∀ d ∈ ds, d.scalar = true) ∧ tyV P n t ds)
    {cs : List Value} : ∀ (fs : List Field) (m k : Nat), laidF P m fs = some k → (∀ f ∈ fs, ts.contains f.type = true) → k ≤ cs.length →
    (∀ f ∈ fs, ∃ x, DataW.trod enc P W base (fun _ => true) held n f.type ((cs.drop f.offset).take (P.cellsOf f.type)) = some x) →
    m ≤ k ∧ ∃ ds, EncL bareO W ds ((cs.drop m).take (k - m)) ∧ (∀ d ∈ ds, d.scalar = true) ∧ ∀ f ∈ fs, m ≤ f.offset ∧ tyV P n f.type ((ds.drop (f.offset - m)).take (P.cellsOf f.type))
  | [], m, k, hl, _, _, _ => by
    simp only [laidF, Option.some.injEq] at hl
    subst hl
    exact ⟨Nat.le_refl _, [], by rw [Nat.sub_self, List.take_zero]; exact .nil, (by intro d hd; cases hd), (by intro f hf; cases hf)⟩
  | f :: fs, m, k, hl, ht, hk, hx => by
    simp only [laidF] at hl
    split at hl
    · rename_i ho
      obtain ⟨hmk, ds2, he2, hs2, hf2⟩ := open_fields W n ih fs _ _ hl (fun g hg => ht g (List.mem_cons_of_mem _ hg)) hk (fun g hg => hx g (List.mem_cons_of_mem _ hg))
      obtain ⟨x, hx1⟩ := hx f List.mem_cons_self
      obtain ⟨ds1, he1, hs1, hf1⟩ := ih _ _ _ (ht f List.mem_cons_self) hx1
      have hlen1 := he1.length
      rw [List.length_take, List.length_drop, ho] at hlen1
      have hlen1' : ds1.length = P.cellsOf f.type := by omega
      refine ⟨by omega, ds1 ++ ds2, ?_, ?_, ?_⟩
      · have := append_encL he1 he2
        rw [ho] at this
        have e : (cs.drop m).take (k - m) = (cs.drop m).take (P.cellsOf f.type) ++ (cs.drop (m + P.cellsOf f.type)).take (k - (m + P.cellsOf f.type)) := by
          rw [← List.drop_drop, show k - m = P.cellsOf f.type + (k - (m + P.cellsOf f.type)) by omega, List.take_add]
        rw [e]; exact this
      · intro d hd
        rcases List.mem_append.1 hd with hd | hd
        · exact hs1 d hd
        · exact hs2 d hd
      · intro g hg
        rcases List.mem_cons.1 hg with rfl | hg
        · refine ⟨by omega, ?_⟩
          rw [ho, Nat.sub_self, List.drop_zero, ← hlen1', List.take_left]
          exact hf1
        · obtain ⟨h1, h2⟩ := hf2 g hg
          refine ⟨by omega, ?_⟩
          rw [show g.offset - m = ds1.length + (g.offset - (m + P.cellsOf f.type)) by omega, List.drop_append, List.drop_eq_nil_of_le (by omega), List.nil_append, Nat.add_sub_cancel_left]
          exact h2
    · cases hl
theorem cell_spot {w : World} {a : Addr} {v : Value} (h : w.cell? a = some v) : a.spot = none := by
  unfold World.cell? at h
  split at h
  · split at h
    · cases h
    · rename_i hs; simpa using hs
  · cases h
theorem add_add (b off k j : Nat) : ((⟨b, off, none⟩ : Addr).add k).add j = ⟨b, off + k + j, none⟩ := by
  unfold Addr.add
  by_cases hk : k = 0
  · subst hk; by_cases hj : j = 0
    · subst hj; simp
    · simp [hj]
  · by_cases hj : j = 0
    · subst hj; simp [hk]
    · simp [hk, hj]
/-- an element, from its cells -/
theorem open_elem (W : World) (n : Nat) {e : TypeId} {ds : List DV} {cs : List Value} (he : EncL bareO W ds cs) (hs : ∀ d ∈ ds, d.scalar = true) (ht : tyV P n e ds) :
    ∃ (v : DV) (x : Value), Enc bareO W v x ∧ x.cells.toList = cs ∧ isAgg v = isStruct P e ∧ tyV P n e v.cells ∧ x = (if isStruct P e = true then .agg cs.toArray else cs.headD undef) := by
  cases n with
  | zero => exact ht.elim
  | succ n =>
    by_cases hst : isStruct P e = true
    · exact ⟨.agg ds, .agg cs.toArray, .agg _ _ he hs, by simp [Value.cells], by rw [hst]; rfl, ht, by rw [if_pos hst]⟩
    · have one : ∃ d, ds = [d] ∧ d.scalar = true := by
        have ht' := ht
        unfold tyV at ht'
        unfold isStruct at hst
        split at ht'
        · obtain ⟨b, rfl⟩ := ht'; exact ⟨_, rfl, rfl⟩
        · obtain ⟨b, rfl, _⟩ := ht'; exact ⟨_, rfl, rfl⟩
        · obtain ⟨b, rfl, _⟩ := ht'; exact ⟨_, rfl, rfl⟩
        · obtain ⟨b, rfl, _⟩ := ht'; exact ⟨_, rfl, rfl⟩
        · rename_i hu; rw [hu] at hst; exact absurd rfl hst
        · exact ht'.elim
      obtain ⟨d, rfl, hd⟩ := one
      cases he with
      | cons h t =>
        cases t
        refine ⟨d, _, h, by rw [sc_cells hd h], ?_, ?_, by rw [if_neg hst]; rfl⟩
        · have : isStruct P e = false := by simpa using hst
          rw [this]; cases d <;> first | rfl | (simp [DV.scalar] at hd)
        · have : d.cells = [d] := by cases d <;> first | rfl | (simp [DV.scalar] at hd)
          rw [this]; exact ht
theorem open_row (W : World) (n : Nat) {e : TypeId} {a : Addr}
    (ih : ∀ (cs : List Value) (x : DataW H × List MemPlace), DataW.trod enc P W base (fun _ => true) held n e cs = some x → ∃ ds, EncL bareO W ds cs ∧ (∀ d ∈ ds, d.scalar = true) ∧ tyV P n e ds) :
    ∀ (m : Nat), (∀ i, i < m → ∃ y, (W.cells? base (a.add (i * P.cellsOf e)) (P.cellsOf e)).bind (DataW.trod enc P W base (fun _ => true) held n e) = some y) →
    ∃ (vs : List DV) (xs : List Value), vs.length = m ∧ EncL bareO W vs xs ∧ (∀ v ∈ vs, isAgg v = isStruct P e ∧ tyV P n e v.cells) ∧
      ∀ (i : Nat) x, xs[i]? = some x → x.cells.size = P.cellsOf e ∧ ∀ (j : Nat) y, x.cells[j]? = some y → W.cell? ((a.add (i * P.cellsOf e)).add j) = some y
  | 0, _ => ⟨[], [], rfl, .nil, by simp, by simp⟩
  | m + 1, h => by
    obtain ⟨vs, xs, h1, h2, h3, h4⟩ := open_row W n ih m (fun i hi => h i (by omega))
    obtain ⟨y, hy⟩ := h m (by omega)
    rw [Option.bind_eq_some_iff] at hy
    obtain ⟨cs, hcs, hy⟩ := hy
    obtain ⟨ds, e1, e2, e3⟩ := ih _ _ hy
    obtain ⟨v, x, f1, f2, f3, f4, _⟩ := open_elem W n e1 e2 e3
    obtain ⟨_, g2, g3⟩ := World.cells?_some hcs
    refine ⟨vs ++ [v], xs ++ [x], by simp [h1], append_encL h2 (.cons f1 .nil), ?_, ?_⟩
    · intro u hu
      rcases List.mem_append.1 hu with hu | hu
      · exact h3 u hu
      · simp at hu; subst hu; exact ⟨f3, f4⟩
    · intro i z hz
      have hxl : xs.length = m := by rw [← h2.length, h1]
      by_cases hi : i < m
      · rw [List.getElem?_append_left (by omega)] at hz
        exact h4 i z hz
      · have hil := (List.getElem?_eq_some_iff.1 hz).1
        simp at hil
        have : i = m := by omega
        subst this
        rw [List.getElem?_append_right (by omega), hxl, Nat.sub_self] at hz
        simp at hz; subst hz
        have hsz : x.cells.size = cs.length := by rw [← f2]; simp
        refine ⟨by omega, fun j y' hj => ?_⟩
        have hjl := (Array.getElem?_eq_some_iff.1 hj).1
        rw [g3 j (by omega), ← f2]
        simpa using hj
/-- what a plain type reads from memory is data -/
theorem open_plain (W : World) {ts : List TypeId} (hp : ∀ t, ts.contains t = true → plainT P ts t = true) : ∀ (n : Nat) (t : TypeId) (cs : List Value) (x : DataW H × List MemPlace), ts.contains t = true →
    DataW.trod enc P W base (fun _ => true) held n t cs = some x → ∃ ds, EncL bareO W ds cs ∧ (∀ d ∈ ds, d.scalar = true) ∧ tyV P n t ds := by
  intro n
  induction n with
  | zero => intro t cs x _ h; simp [DataW.trod] at h
  | succ n ih =>
    intro t cs x ht h
    have hpt := hp t ht
    unfold plainT at hpt
    split at hpt
    · rename_i hu
      obtain ⟨b, rfl, _⟩ := DataW.trod_bool hu h
      refine ⟨[.bool b], .cons (.bool b) .nil, by simp [DV.scalar], ?_⟩
      unfold tyV; rw [hu]; exact ⟨b, rfl⟩
    · rename_i k hu
      obtain ⟨m, rfl, _, hw⟩ := DataW.trod_int hu h
      refine ⟨[.int k m], .cons (.int k m) .nil, by simp [DV.scalar], ?_⟩
      unfold tyV; rw [hu]; exact ⟨m, rfl, hw⟩
    · rename_i hu
      obtain ⟨s, rfl, _, hw⟩ := DataW.trod_string hu h
      have e : (⟨s.data.toList.toArray⟩ : ByteArray) = s := by cases s; simp
      have hl : s.data.toList.length ≤ maxLen := by rw [Array.length_toList]; exact hw
      have h1 : Enc bareO W (.str s.data.toList) (.string ⟨s.data.toList.toArray⟩) := .str _ (by unfold maxLen at hl; omega)
      rw [e] at h1
      refine ⟨[.str s.data.toList], .cons h1 .nil, by simp [DV.scalar], ?_⟩
      unfold tyV; rw [hu]; exact ⟨_, rfl, hl⟩
    · rename_i e hu
      simp only [Bool.and_eq_true, decide_eq_true_eq] at hpt
      obtain ⟨hte, hpos⟩ := hpt
      rcases DataW.trod_slice hu h with ⟨rfl, _⟩ | ⟨a, len, cap, elems, rest, n', hn, rfl, _, hb, hl, hm, hlen, hel, hsp, _⟩
      · refine ⟨[.slc (P.cellsOf e) []], .cons (.slcNil _) .nil, by simp [DV.scalar], ?_⟩
        unfold tyV; rw [hu]; exact ⟨[], rfl, by simp, by simp⟩
      · have hn' : n' = n := by omega
        subst hn'
        obtain ⟨hrl, hr⟩ := hsp rfl
        have each : ∀ i, i < cap → ∃ y, (W.cells? base (a.add (i * P.cellsOf e)) (P.cellsOf e)).bind (DataW.trod enc P W base (fun _ => true) held n' e) = some y := by
          intro i hi
          by_cases hil : i < len
          · exact ⟨elems[i]'(by omega), by rw [hel i hil]; exact List.getElem?_eq_getElem _⟩
          · refine ⟨rest[i - len]'(by omega), ?_⟩
            have := hr (i - len) (by omega)
            rw [show len + (i - len) = i by omega] at this
            rw [this]; exact List.getElem?_eq_getElem _
        obtain ⟨vs, xs, h1, h2, h3, h4⟩ := open_row W n' (fun cs x hx => ih e cs x hte hx) len (fun i hi => each i (by omega))
        refine ⟨[.slc (P.cellsOf e) vs], ?_, by simp [DV.scalar], ?_⟩
        · refine .cons ?_ .nil
          by_cases hc : cap = 0
          · have : len = 0 := by omega
            subst this; subst hc
            have : vs = [] := List.eq_nil_of_length_eq_zero h1
            subst this
            exact .slcZ _ a
          · have hs : a.spot = none := by
              obtain ⟨y, hy⟩ := each 0 (by omega)
              rw [Option.bind_eq_some_iff] at hy
              obtain ⟨cs, hcs, _⟩ := hy
              obtain ⟨_, g2, g3⟩ := World.cells?_some hcs
              have := g3 0 hpos
              rw [List.getElem?_eq_getElem (by omega), Nat.zero_mul] at this
              have e0 : (a.add 0).add 0 = a := by simp [Addr.add]
              rw [e0] at this
              exact cell_spot this
            obtain ⟨b, off, sp⟩ := a
            dsimp only at hs
            subst hs
            subst h1
            refine .slc _ vs b off cap xs hl (by unfold maxLen at hm; omega) h2 fun i x hx => ?_
            obtain ⟨k1, k2⟩ := h4 i x hx
            refine ⟨k1, fun j y hy => ⟨?_, fun lo p h => by cases h⟩⟩
            have := k2 j y hy
            rw [add_add] at this
            exact this
        · unfold tyV; rw [hu]; exact ⟨vs, rfl, by omega, h3⟩
    · rename_i fs hu
      simp only [Bool.and_eq_true, beq_iff_eq, List.all_eq_true] at hpt
      obtain ⟨hlay, hall⟩ := hpt
      obtain ⟨ys, m, hm, _, hcl, hyl, hf⟩ := DataW.trod_struct hu h
      have hm' : m = n := by omega
      subst hm'
      obtain ⟨_, ds, d1, d2, d3⟩ := open_fields (cs := cs) W m (fun t cs x ht hx => ih t cs x ht hx) fs.toList 0 _ hlay hall (by omega) (fun f hfm => by
        obtain ⟨i, hi⟩ := List.getElem?_of_mem hfm
        have hi' : fs[i]? = some f := by simpa using hi
        have hlt : i < fs.size := (Array.getElem?_eq_some_iff.1 hi').1
        exact ⟨ys[i]'(by omega), by rw [hf i f hi']; exact List.getElem?_eq_getElem _⟩)
      rw [List.drop_zero, Nat.sub_zero, ← hcl, List.take_length] at d1
      refine ⟨ds, d1, d2, ?_⟩
      unfold tyV; rw [hu]
      refine ⟨by rw [d1.length, hcl], fun f hfm => ?_⟩
      exact (d3 f hfm).2
    · cases hpt
/-- an argument of a plain type, opened -/
theorem open_arg {W : World} {ts : List TypeId} {t : TypeId} {r : Reach} {b0 : Nat} {v : Value} {d : DataW H} {ps : List MemPlace} (hp : ∀ t, ts.contains t = true → plainT P ts t = true) (ht : ts.contains t = true)
    (hval : Value.okWide P W r b0 t v) (hd : DataW.Trod enc P W base (fun _ => true) held t v d ps) :
    ∃ (n : Nat) (u : DV), PEnc bareO W [] (.d u) v ∧ isAgg u = isStruct P t ∧ tyV P n t u.cells := by
  obtain ⟨n, hf⟩ := hd
  obtain ⟨ds, e1, e2, e3⟩ := open_plain W hp n t _ _ ht hf
  obtain ⟨u, x, f1, f2, f3, f4, f5⟩ := open_elem W n e1 e2 e3
  have hx : x = v := by
    rw [f5]
    have hpt := hp t ht
    unfold plainT at hpt
    unfold isStruct
    split at hpt
    · rename_i hu
      obtain ⟨b, rfl⟩ := okWide_bool hu hval
      rw [hu]; rfl
    · rename_i k hu
      obtain ⟨b, rfl⟩ := okWide_int hu hval
      rw [hu]; rfl
    · rename_i hu
      obtain ⟨b, rfl⟩ := okWide_string hu hval
      rw [hu]; rfl
    · rename_i e hu
      obtain ⟨a, l, c, rfl⟩ := okWide_slice hu hval
      rw [hu]; rfl
    · rename_i fs hu
      obtain ⟨cs, rfl, _⟩ := okWide_struct hu hval
      rw [hu]
      simp [Value.cells]
    · cases hpt
  subst hx
  exact ⟨n, u, .d f1, f3, f4⟩
end
end Go.PS
end
