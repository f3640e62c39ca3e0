/- PROVED: for any columns and any query the law TypesSteps of layer 18 returns true (a query is accepted if the query without its last step is and that step is for its columns, else there is the same fault), and the arguments read afterwards as they read before.
   CONDITIONS: those of the given row and card; no others. -/
import Derived.Test.YtcjcppnclfbjpaaGreatDoorU0
import Derived.Test.YtcjcppnclfbjpaaGreatDoorU1
import Derived.Test.YtcjcppnclfbjpaaGreatDoorU2
import Derived.Test.YtcjcppnclfbjpaaGreatDoorU3
import Derived.Test.YtcjcppnclfbjpaaGreatDoorU4
import Derived.Test.YtcjcppnclfbjpaaGreatDoorRows
import Derived.Test.YtcjcppnclfbjpaaGreatDoorTie
import Derived.ProofKit
import Derived.OpenShut
import Derived.LaidMore
import Derived.Lay
import Derived.Lib.LaidU8
import Derived.Lib.LaidTab
import Derived.ChangeMaps
import Derived.ChangeSame
import Derived.ChangeVars
import Derived.JoinedOf
import Derived.RowKit
import Derived.RowKitTokens
import Derived.LaidLaws
import Derived.LaidHandle
import Derived.SizedLaws
import Derived.SliceStrings
import Derived.SevenTiedAt
import Derived.Stop.Joined
import Derived.Stop.LaidErr
import Derived.Test.YtcjcppnclfbjpaaGreatDoorCards
set_option linter.all false
section
namespace Go.PS
open Go.Proofs
set_option linter.all false
theorem loop55_0 (F : Nat) {R : Type} (kk : Nat) (e : Int) (k : Int) (c : Str) (vk : Int) (vn : Int) (vs : Str) (L : List DV) (p : Int) (K : Ex → St → Option R) (g0 : L.length ≤ ML) (g1 : L.all (okC ML kk) = true) (g2 : 1 ≤ e) (g3 : e ≤ 1000) :
    ∀ (m : Nat) (n : Int) (i : Int), 0 ≤ n → n ≤ 1000 → 0 ≤ i → i ≤ L.length → (n).toNat < m →
      loopK (pcodeK (ctx F [(55, .pure (S55 kk))]) noL (lp Tryz.f55 0)) 1 (allBut 48 [1, 2, 3, 7] ++ temps (lp Tryz.f55 0)) (allBut 48 [1]) m
        ⟨slots 48 [(1, .d (.int .i64 n)), (2, .d (.int .i64 e)), (3, .ptr 0 0), (7, .d (.int .i64 i))], [.cells [.d (.int .i64 k), .d (.str c), .d (.int .i64 vk), .d (.int .i64 vn), .d (.str vs), .d (.slc 7 L), .d (.int .i64 p)]]⟩ K =
      Tr.run (.ok (.exit 0, ⟨slots 48 [(1, .d (.int .i64 (leftL (leftV (e - 1).toNat) (L.drop i.toNat) n)))], [.cells [.d (.int .i64 k), .d (.str c), .d (.int .i64 vk), .d (.int .i64 vn), .d (.str vs), .d (.slc 7 L), .d (.int .i64 p)]]⟩)) (fun p => K p.1 p.2) := by
  intro m
  induction m with
  | zero => intro n i; intros; omega
  | succ m ih =>
    intro n i h0 h1 h2 h3 hm
    rw [loopK_succ, round55_0]
    have w2 : IntKind.i64.wrap (e - 1) = e - 1 := wrap64 (by omega) (by omega)
    simp only [Tr.run, rnd, cnd_i, chk_i, Bool.and_eq_true, decide_eq_true_eq, w2]
    by_cases hi : i < L.length
    · by_cases hn : n > 0
      · have w : IntKind.i64.wrap (i + 1) = i + 1 := wrap64 (by omega) (by unfold ML at g0; omega)
        have hx := all_gt g1 (i := i) (by omega) (by omega)
        have ht := okC_fits hx
        rw [okC_view hx]
        have f1 := leftV_nn (e - 1).toNat (gt .nili L i.toNat) n
        have f2 : leftV (e - 1).toNat (gt .nili L i.toNat) n < n := by
          by_cases q : 0 < leftV (e - 1).toNat (gt .nili L i.toNat) n
          · exact leftV_lt _ _ _ q
          · omega
        have ih1 := ih (leftV (e - 1).toNat (gt .nili L i.toNat) n) (i + 1) f1 (by omega) (by omega) (by omega) (by omega)
        simp only [Tr.run] at ih1
        rw [left_drop (by omega) (by omega), if_pos hn]
        have hj : i.toNat < L.length := by omega
        have e0 : 0 ≤ e - 1 := by omega
        have e1 : e - 1 ≤ 1000 := by omega
        simp only [hi, hn, h2, hj, ht, hx, e0, e1, h0, h1, w, and_self, if_true]
        exact ih1
      · have : n = 0 := by omega
        subst this
        rw [leftL_zero]
        simp [hi]
    · have : L.drop i.toNat = [] := List.drop_of_length_le (by omega)
      rw [this]
      simp [hi, leftL]
theorem lps55 (F : Nat) (hF : F = FU) (kk : Nat) : LpsOk (ctx F [(55, .pure (S55 kk))]) (L55 kk) (loopsOf (body Tryz.f55)) := by
  subst hF
  refine lps_one (c := lp Tryz.f55 0) rfl (by kernel_rfl) fun R st K r h => ?_
  unfold T55_0 at h
  cases hs : shape 48 [1, 2, 3, 7] st.slots with
  | false => rw [hs] at h; simp [Tr.run] at h
  | true =>
  rw [hs] at h
  simp only [cond_true] at h
  have he := shape_eq hs
  obtain ⟨sl0, H⟩ := st
  dsimp only at h he ⊢
  split at h
  · rename_i n e i k c vk vn vs L p g0_ g1_ g2_ g3_
    simp only [List.map_cons, List.map_nil, g0_, g1_, g2_, g3_] at he
    subst he
    simp only [Tr.run] at h
    cases hc : (decide (L.length ≤ ML) && decide (L.all (okC ML kk) = true) && decide (1 ≤ e) && decide (e ≤ 1000) && decide (0 ≤ n) && decide (n ≤ 1000) && decide (0 ≤ i) && decide (i ≤ L.length)) with
    | false => rw [hc] at h; simp at h
    | true =>
    rw [hc] at h
    simp only [Bool.and_eq_true, decide_eq_true_eq] at hc
    obtain ⟨⟨⟨⟨⟨⟨⟨c0, c1⟩, c2⟩, c3⟩, c4⟩, c5⟩, c6⟩, c7⟩ := hc
    refine (loop55_0 FU kk e k c vk vn vs L p K c0 c1 c2 c3 FU n i c4 c5 c6 c7 (by unfold FU; (try unfold big at *); omega)).trans ?_
    rw [← h]
    rfl
  · simp [Tr.run] at h
theorem ok55s (W0 : World) (kk : Nat) (ih : EKOk Tryz.prog W0 55 (.pure (S55 kk))) : EKOk Tryz.prog W0 55 (.pure (S55 (kk + 1))) := by
  refine pure_of (tyOk FU [(55, .pure (S55 kk))]) (look_ok (all_cons ih all_nil)) mixed fn55 (lps55 FU rfl kk) fun args r h => ?_
  unfold S55 at h
  split at h
  · rename_i v n e
    simp only [Tr.val_chk, chk_some, Bool.and_eq_true, decide_eq_true_eq] at h
    obtain ⟨⟨⟨⟨⟨hv, q1⟩, q2⟩, q3⟩, q4⟩, h⟩ := h
    obtain ⟨k, c, vk, vn, vs, L, p, rfl, h1, h2, h3, h4, h5⟩ := okC_inv hv
    refine (run55 FU kk k c vk vn vs L p n e).trans (Eq.trans ?_ h)
    unfold ML at h1 h2
    have w1 : IntKind.i64.wrap (n - 1) = n - 1 := wrap64 (by omega) (by omega)
    have d1 : (c.length : Int).tdiv 50 = (c.length : Int) / 50 := Int.tdiv_eq_ediv_of_nonneg (by omega)
    have d2 : (vs.length : Int).tdiv 50 = (vs.length : Int) / 50 := Int.tdiv_eq_ediv_of_nonneg (by omega)
    have w2 : IntKind.i64.wrap ((c.length : Int) / 50) = (c.length : Int) / 50 := wrap64 (by omega) (by omega)
    have w3 : IntKind.i64.wrap ((vs.length : Int) / 50) = (vs.length : Int) / 50 := wrap64 (by omega) (by omega)
    have w4 : IntKind.i64.wrap (n - 1 - (c.length : Int) / 50) = n - 1 - (c.length : Int) / 50 := wrap64 (by omega) (by omega)
    have w5 : IntKind.i64.wrap (n - 1 - (c.length : Int) / 50 - (vs.length : Int) / 50) = n - 1 - (c.length : Int) / 50 - (vs.length : Int) / 50 := wrap64 (by omega) (by omega)
    simp only [Tr.val_ok, Tr.val_cnd, Tr.val_chk, cnd_i, chk_i, Bool.and_eq_true, decide_eq_true_eq, List.drop_zero, Int.toNat_zero, w1, d1, d2, w2, w3, w4, w5, h4, h5]
    by_cases z : e < 1
    · have : e.toNat = 0 := by omega
      simp only [z, if_true, this]; rfl
    · have e1 : e.toNat = (e - 1).toNat + 1 := by omega
      have e2 : leftV ((e - 1).toNat + 1) (.agg [.int .i64 k, .str c, .int .i64 vk, .int .i64 vn, .str vs, .slc 7 L, .int .i64 p]) n = if n - 1 - (c.length : Int) / 50 - (vs.length : Int) / 50 < 1 then 0 else leftL (leftV (e - 1).toNat) L (n - 1 - (c.length : Int) / 50 - (vs.length : Int) / 50) := rfl
      rw [e1, e2]
      simp only [z, if_false]
      by_cases y : n - 1 - (c.length : Int) / 50 - (vs.length : Int) / 50 < 1
      · simp only [y, if_true]
      · simp only [y, if_false]
        rw [if_pos (by simp only [and_true, true_and]; omega)]
  · simp [Tr.val_no] at h
theorem loop56_0 (F : Nat) {R : Type} (l : List DV) (K : Ex → St → Option R) (g0 : l.length ≤ 20) (g1 : l.all (okCol ML) = true) :
    ∀ (m : Nat) (i : Int), 0 ≤ i → i ≤ l.length → (l.length - i).toNat < m →
      loopK (pcodeK (ctx F []) noL (lp Tryz.f56 0)) 0 (allBut 20 [0, 3] ++ temps (lp Tryz.f56 0)) (allBut 20 [2]) m
        ⟨slots 20 [(0, .d (.slc 3 l)), (3, .d (.int .i64 i))], []⟩ K =
      Tr.run (.cnd ((l.drop i.toNat).all shortC) (.ok (.exit 0, ⟨slots 20 [], []⟩)) (.ok (.ret, ⟨slots 20 [(2, .d (.bool false))], []⟩))) (fun p => K p.1 p.2) := by
  intro m
  induction m with
  | zero => intro i; intros; omega
  | succ m ih =>
    intro i h0 h1 hm
    rw [loopK_succ, round56_0]
    simp only [Tr.run, rnd, cnd_i, chk_i, Bool.and_eq_true, decide_eq_true_eq]
    by_cases hi : i < l.length
    · have w : IntKind.i64.wrap (i + 1) = i + 1 := wrap64 (by omega) (by omega)
      have hx := all_gt g1 (i := i) (by omega) (by omega)
      have ht := okCol_fits hx
      have ih1 := ih (i + 1)
      simp only [Tr.run, cnd_i] at ih1
      have e : shortC (gt .nili l i.toNat) = decide ((atS l i.toNat 0).length ≤ 100) := rfl
      have e2 : ((atS l i.toNat 0).length : Int) > 100 ↔ ¬ ((atS l i.toNat 0).length ≤ 100) := by omega
      rw [all_drop (by omega) (by omega), e]
      simp only [e2]
      clear ih
      rw [ht]
      grind
    · have : l.drop i.toNat = [] := List.drop_of_length_le (by omega)
      rw [this]
      simp [hi]
theorem lps56 (F : Nat) (hF : F = FU) : LpsOk (ctx F []) L56 (loopsOf (body Tryz.f56)) := by
  subst hF
  refine lps_one (c := lp Tryz.f56 0) rfl (by kernel_rfl) fun R st K r h => ?_
  unfold T56_0 at h
  cases hs : shape 20 [0, 3] st.slots with
  | false => rw [hs] at h; simp [Tr.run] at h
  | true =>
  rw [hs] at h
  simp only [cond_true] at h
  have he := shape_eq hs
  obtain ⟨sl0, H⟩ := st
  dsimp only at h he ⊢
  split at h
  · rename_i l i g0_ g1_
    simp only [List.map_cons, List.map_nil, g0_, g1_] at he
    subst he
    simp only [Tr.run] at h
    cases hc : (decide (l.length ≤ 20) && decide (l.all (okCol ML) = true) && decide (0 ≤ i) && decide (i ≤ l.length)) with
    | false => rw [hc] at h; simp at h
    | true =>
    rw [hc] at h
    simp only [Bool.and_eq_true, decide_eq_true_eq] at hc
    obtain ⟨⟨⟨c0, c1⟩, c2⟩, c3⟩ := hc
    refine (loop56_0 FU l K c0 c1 FU i c2 c3 (by unfold FU; (try unfold big at *); omega)).trans ?_
    rw [← h]
    rfl
  · simp [Tr.run] at h
theorem ok56 (W0 : World) : EKOk Tryz.prog W0 56 (.pure S56) := by
  refine pure_of (tyOk FU []) (look_ok all_nil) mixed fn56 (lps56 FU rfl) fun args r h => ?_
  unfold S56 at h
  split at h
  · rename_i l
    refine (run56 FU l).trans (Eq.trans ?_ h)
    simp only [Tr.val_chk, chk_some, Bool.and_eq_true, decide_eq_true_eq] at h
    obtain c0 := h.1
    clear h
    have e : (l.length : Int) > 20 ↔ ¬ (l.length ≤ 20) := by omega
    have e2 : colsF l = (decide (l.length ≤ 20) && l.all shortC) := rfl
    simp only [Tr.val_ok, Tr.val_cnd, Tr.val_chk, cnd_i, chk_i, Bool.and_eq_true, decide_eq_true_eq, List.drop_zero, Int.toNat_zero, c0, e, e2]
    by_cases q : l.length ≤ 20
    · simp only [q, not_true_eq_false, if_false, decide_true, Bool.true_and, true_and, and_self, if_true, Int.le_refl, Int.natCast_nonneg]
      cases l.all shortC <;> rfl
    · simp [q]
  · simp [Tr.val_no] at h
theorem loop13_0 (F : Nat) {R : Type} (kk : Nat) (l : List DV) (k : Int) (f : Int) (t : Int) (path : Str) (name : Str) (b : Str) (c : Int) (a : Bool) (ti : Int) (p1 : Int) (b2 : Str) (cm2 : Int) (a2 : Bool) (ti2 : Int) (p2 : Int) (p3 : Int) (steps : List DV) (u0 : Int) (u1 : Int) (u2 : Int) (u3 : Str) (u4 : Str) (u5 : Str) (u6 : Int) (u7 : Bool) (u8 : Int) (u9 : Int) (u10 : Str) (u11 : Int) (u12 : Bool) (u13 : Int) (u14 : Int) (u15 : Int) (K : Ex → St → Option R) (g0 : l.length ≤ 30) (g1 : l.all (okCn ML) = true) :
    ∀ (m : Nat) (i : Int), 0 ≤ i → i ≤ l.length → (l.length - i).toNat < m →
      loopK (pcodeK (ctx F [(55, .pure (S55 kk)), (56, .pure S56)]) noL (lp Tryz.f13 0)) 2 (allBut 81 [1, 2, 6] ++ temps (lp Tryz.f13 0)) (allBut 81 [2, 4]) m
        ⟨slots 81 [(1, .d (.slc 2 l)), (2, .ptr 0 0), (6, .d (.int .i64 i))], [.cells [.d (.int .i64 k), .d (.int .i64 f), .d (.int .i64 t), .d (.str path), .d (.str name), .d (.str b), .d (.int .i64 c), .d (.bool a), .d (.int .i64 ti), .d (.int .i64 p1), .d (.str b2), .d (.int .i64 cm2), .d (.bool a2), .d (.int .i64 ti2), .d (.int .i64 p2), .d (.int .i64 p3), .d (.slc 12 steps)], .cells [.d (.int .i64 u0), .d (.int .i64 u1), .d (.int .i64 u2), .d (.str u3), .d (.str u4), .d (.str u5), .d (.int .i64 u6), .d (.bool u7), .d (.int .i64 u8), .d (.int .i64 u9), .d (.str u10), .d (.int .i64 u11), .d (.bool u12), .d (.int .i64 u13), .d (.int .i64 u14), .d (.int .i64 u15)]]⟩ K =
      Tr.run (.cnd ((l.drop i.toNat).all shortC) (.ok (.exit 0, ⟨slots 81 [(2, .ptr 0 0)], [.cells [.d (.int .i64 k), .d (.int .i64 f), .d (.int .i64 t), .d (.str path), .d (.str name), .d (.str b), .d (.int .i64 c), .d (.bool a), .d (.int .i64 ti), .d (.int .i64 p1), .d (.str b2), .d (.int .i64 cm2), .d (.bool a2), .d (.int .i64 ti2), .d (.int .i64 p2), .d (.int .i64 p3), .d (.slc 12 steps)], .cells [.d (.int .i64 u0), .d (.int .i64 u1), .d (.int .i64 u2), .d (.str u3), .d (.str u4), .d (.str u5), .d (.int .i64 u6), .d (.bool u7), .d (.int .i64 u8), .d (.int .i64 u9), .d (.str u10), .d (.int .i64 u11), .d (.bool u12), .d (.int .i64 u13), .d (.int .i64 u14), .d (.int .i64 u15)]]⟩)) (.ok (.ret, ⟨slots 81 [(2, .ptr 0 0), (4, .d (.bool false))], [.cells [.d (.int .i64 k), .d (.int .i64 f), .d (.int .i64 t), .d (.str path), .d (.str name), .d (.str b), .d (.int .i64 c), .d (.bool a), .d (.int .i64 ti), .d (.int .i64 p1), .d (.str b2), .d (.int .i64 cm2), .d (.bool a2), .d (.int .i64 ti2), .d (.int .i64 p2), .d (.int .i64 p3), .d (.slc 12 steps)], .cells [.d (.int .i64 u0), .d (.int .i64 u1), .d (.int .i64 u2), .d (.str u3), .d (.str u4), .d (.str u5), .d (.int .i64 u6), .d (.bool u7), .d (.int .i64 u8), .d (.int .i64 u9), .d (.str u10), .d (.int .i64 u11), .d (.bool u12), .d (.int .i64 u13), .d (.int .i64 u14), .d (.int .i64 u15)]]⟩))) (fun p => K p.1 p.2) := by
  intro m
  induction m with
  | zero => intro i; intros; omega
  | succ m ih =>
    intro i h0 h1 hm
    rw [loopK_succ, round13_0]
    simp only [Tr.run, rnd, cnd_i, chk_i, Bool.and_eq_true, decide_eq_true_eq]
    by_cases hi : i < l.length
    · have w : IntKind.i64.wrap (i + 1) = i + 1 := wrap64 (by omega) (by omega)
      have hx := all_gt g1 (i := i) (by omega) (by omega)
      have ht := okCn_fits hx
      have ih1 := ih (i + 1)
      simp only [Tr.run, cnd_i] at ih1
      have e : shortC (gt .nili l i.toNat) = decide ((atS l i.toNat 0).length ≤ 100) := rfl
      have e2 : ((atS l i.toNat 0).length : Int) > 100 ↔ ¬ ((atS l i.toNat 0).length ≤ 100) := by omega
      rw [all_drop (by omega) (by omega), e]
      simp only [e2]
      clear ih
      rw [ht]
      grind
    · have : l.drop i.toNat = [] := List.drop_of_length_le (by omega)
      rw [this]
      simp [hi]
theorem loop13_1 (F : Nat) {R : Type} (kk : Nat) (k : Int) (f : Int) (t : Int) (path : Str) (name : Str) (b : Str) (c : Int) (a : Bool) (ti : Int) (p1 : Int) (b2 : Str) (cm2 : Int) (a2 : Bool) (ti2 : Int) (p2 : Int) (p3 : Int) (steps : List DV) (u0 : Int) (u1 : Int) (u2 : Int) (u3 : Str) (u4 : Str) (u5 : Str) (u6 : Int) (u7 : Bool) (u8 : Int) (u9 : Int) (u10 : Str) (u11 : Int) (u12 : Bool) (u13 : Int) (u14 : Int) (u15 : Int) (K : Ex → St → Option R) (g0 : steps.length ≤ 25) (g1 : steps.all (okStep ML kk) = true) :
    ∀ (m : Nat) (i : Int), 0 ≤ i → i ≤ steps.length → (steps.length - i).toNat < m →
      loopK (pcodeK (ctx F [(55, .pure (S55 kk)), (56, .pure S56)]) noL (lp Tryz.f13 1)) 2 (allBut 81 [2, 7] ++ temps (lp Tryz.f13 1)) (allBut 81 [4]) m
        ⟨slots 81 [(2, .ptr 0 0), (7, .d (.int .i64 i))], [.cells [.d (.int .i64 k), .d (.int .i64 f), .d (.int .i64 t), .d (.str path), .d (.str name), .d (.str b), .d (.int .i64 c), .d (.bool a), .d (.int .i64 ti), .d (.int .i64 p1), .d (.str b2), .d (.int .i64 cm2), .d (.bool a2), .d (.int .i64 ti2), .d (.int .i64 p2), .d (.int .i64 p3), .d (.slc 12 steps)], .cells [.d (.int .i64 u0), .d (.int .i64 u1), .d (.int .i64 u2), .d (.str u3), .d (.str u4), .d (.str u5), .d (.int .i64 u6), .d (.bool u7), .d (.int .i64 u8), .d (.int .i64 u9), .d (.str u10), .d (.int .i64 u11), .d (.bool u12), .d (.int .i64 u13), .d (.int .i64 u14), .d (.int .i64 u15)]]⟩ K =
      Tr.run (.cnd ((steps.drop i.toNat).all stepF) (.ok (.exit 2, ⟨slots 81 [], [.cells [.d (.int .i64 k), .d (.int .i64 f), .d (.int .i64 t), .d (.str path), .d (.str name), .d (.str b), .d (.int .i64 c), .d (.bool a), .d (.int .i64 ti), .d (.int .i64 p1), .d (.str b2), .d (.int .i64 cm2), .d (.bool a2), .d (.int .i64 ti2), .d (.int .i64 p2), .d (.int .i64 p3), .d (.slc 12 steps)], .cells [.d (.int .i64 u0), .d (.int .i64 u1), .d (.int .i64 u2), .d (.str u3), .d (.str u4), .d (.str u5), .d (.int .i64 u6), .d (.bool u7), .d (.int .i64 u8), .d (.int .i64 u9), .d (.str u10), .d (.int .i64 u11), .d (.bool u12), .d (.int .i64 u13), .d (.int .i64 u14), .d (.int .i64 u15)]]⟩)) (.ok (.ret, ⟨slots 81 [(4, .d (.bool false))], [.cells [.d (.int .i64 k), .d (.int .i64 f), .d (.int .i64 t), .d (.str path), .d (.str name), .d (.str b), .d (.int .i64 c), .d (.bool a), .d (.int .i64 ti), .d (.int .i64 p1), .d (.str b2), .d (.int .i64 cm2), .d (.bool a2), .d (.int .i64 ti2), .d (.int .i64 p2), .d (.int .i64 p3), .d (.slc 12 steps)], .cells [.d (.int .i64 u0), .d (.int .i64 u1), .d (.int .i64 u2), .d (.str u3), .d (.str u4), .d (.str u5), .d (.int .i64 u6), .d (.bool u7), .d (.int .i64 u8), .d (.int .i64 u9), .d (.str u10), .d (.int .i64 u11), .d (.bool u12), .d (.int .i64 u13), .d (.int .i64 u14), .d (.int .i64 u15)]]⟩))) (fun p => K p.1 p.2) := by
  intro m
  induction m with
  | zero => intro i; intros; omega
  | succ m ih =>
    intro i h0 h1 hm
    rw [loopK_succ, round13_1]
    simp only [Tr.run, rnd, cnd_i, chk_i, Bool.and_eq_true, decide_eq_true_eq]
    by_cases hi : i < steps.length
    · have w : IntKind.i64.wrap (i + 1) = i + 1 := wrap64 (by omega) (by omega)
      have hx := all_gt g1 (i := i) (by omega) (by omega)
      have ht := okStep_fits hx
      have ih1 := ih (i + 1)
      simp only [Tr.run, cnd_i] at ih1
      have e : stepF (gt .nili steps i.toNat) = (decide (0 < leftV 40 (condOf (gt .nili steps i.toNat)) 300) && (colsF (atL steps i.toNat 8) && colsF (atL steps i.toNat 9))) := rfl
      have hcv : DV.agg [view steps i.toNat (0 + 1) (DV.int IntKind.i64 0), view steps i.toNat (0 + 1 + 1) (DV.str []), view steps i.toNat (0 + 1 + 1 + 1) (DV.int IntKind.i64 0), view steps i.toNat (0 + 1 + 1 + 1 + 1) (DV.int IntKind.i64 0), view steps i.toNat (0 + 1 + 1 + 1 + 1 + 1) (DV.str []), view steps i.toNat (0 + 1 + 1 + 1 + 1 + 1 + 1) (DV.nils 7), view steps i.toNat (0 + 1 + 1 + 1 + 1 + 1 + 1 + 1) (DV.int IntKind.i64 0)] = condOf (gt .nili steps i.toNat) := by
        obtain ⟨sk, k, c, vk, vn, vs, L, p, cols, bys, m, sp, e, _⟩ := okStep_inv hx
        simp only [view, atI, atS, atL]
        rw [e]; rfl
      obtain ⟨hc2, hc3⟩ : (atL steps i.toNat 8).all (okCol ML) = true ∧ (atL steps i.toNat 9).all (okCol ML) = true := by
        obtain ⟨sk, k, c, vk, vn, vs, L, p, cols, bys, m, sp, e, h1, h2, h3, _⟩ := okStep_inv hx
        unfold atL
        rw [e]; exact ⟨h2, h3⟩
      have hc1 := cond_ok hx
      have e40 : Int.toNat 40 = 40 := rfl
      have hj : i.toNat < steps.length := by omega
      have e8 : 0 + 1 + 1 + 1 + 1 + 1 + 1 + 1 + 1 = 8 := rfl
      have e9 : 0 + 1 + 1 + 1 + 1 + 1 + 1 + 1 + 1 + 1 = 9 := rfl
      rw [all_drop (by omega) (by omega), e]
      clear ih
      simp only [hi, h0, hj, ht, hcv, hc1, hc2, hc3, e40, e8, e9, w, and_self, if_true, Int.reduceLE, true_and, Bool.not_eq_true', decide_true]
      generalize leftV 40 (condOf (gt .nili steps i.toNat)) 300 = x1 at *
      generalize colsF (atL steps i.toNat 8) = x2 at *
      generalize colsF (atL steps i.toNat 9) = x3 at *
      by_cases q : x1 ≤ 0
      · have q2 : ¬ 0 < x1 := by omega
        simp [q, q2]
      · have q2 : 0 < x1 := by omega
        have ih2 := ih1 (by omega) (by omega) (by omega)
        cases x2 <;> cases x3 <;> simp [q, q2, -List.all_eq_true]
        exact ih2
    · have : steps.drop i.toNat = [] := List.drop_of_length_le (by omega)
      rw [this]
      simp [hi]
end Go.PS
end

section
namespace Go.PS
open Go.Proofs
set_option linter.all false
def L13 (kk : Nat) : Lps := fun i => bif Nat.beq i 5 then some (allBut 81 [1, 2, 6], allBut 81 [2, 4], T13_0) else bif Nat.beq i 10 then some (allBut 81 [2, 7], allBut 81 [4], T13_1 kk) else none
theorem lps13 (F : Nat) (hF : F = FU) (kk : Nat) : LpsOk (ctx F [(55, .pure (S55 kk)), (56, .pure S56)]) (L13 kk) (loopsOf (body Tryz.f13)) := by
  subst hF
  refine lps_two (c1 := lp Tryz.f13 0) (c2 := lp Tryz.f13 1) (ks1 := allBut 81 [1, 2, 6]) (xs1 := allBut 81 [2, 4]) (T1 := T13_0) (ks2 := allBut 81 [2, 7]) (xs2 := allBut 81 [4]) (T2 := T13_1 kk) (by kernel_rfl) (by kernel_rfl) (by kernel_rfl) (fun R st K r h => ?_) (fun R st K r h => ?_)
  · unfold T13_0 at h
    cases hs : shape 81 [1, 2, 6] st.slots with
    | false => rw [hs] at h; simp [Tr.run] at h
    | true =>
    rw [hs] at h
    simp only [cond_true] at h
    have he := shape_eq hs
    obtain ⟨sl0, H⟩ := st
    dsimp only at h he ⊢
    split at h
    · rename_i l i k f t path name b c a ti p1 b2 cm2 a2 ti2 p2 p3 steps u0 u1 u2 u3 u4 u5 u6 u7 u8 u9 u10 u11 u12 u13 u14 u15 g0_ g1_ g2_
      simp only [List.map_cons, List.map_nil, g0_, g1_, g2_] at he
      subst he
      simp only [Tr.run] at h
      cases hc : (decide (l.length ≤ 30) && decide (l.all (okCn ML) = true) && decide (0 ≤ i) && decide (i ≤ l.length)) with
      | false => rw [hc] at h; simp at h
      | true =>
      rw [hc] at h
      simp only [Bool.and_eq_true, decide_eq_true_eq] at hc
      obtain ⟨⟨⟨c0, c1⟩, c2⟩, c3⟩ := hc
      refine (loop13_0 FU kk l k f t path name b c a ti p1 b2 cm2 a2 ti2 p2 p3 steps u0 u1 u2 u3 u4 u5 u6 u7 u8 u9 u10 u11 u12 u13 u14 u15 K c0 c1 FU i c2 c3 (by unfold FU; omega)).trans ?_
      rw [← h]
      rfl
    · simp [Tr.run] at h
  · unfold T13_1 at h
    cases hs : shape 81 [2, 7] st.slots with
    | false => rw [hs] at h; simp [Tr.run] at h
    | true =>
    rw [hs] at h
    simp only [cond_true] at h
    have he := shape_eq hs
    obtain ⟨sl0, H⟩ := st
    dsimp only at h he ⊢
    split at h
    · rename_i i k f t path name b c a ti p1 b2 cm2 a2 ti2 p2 p3 steps u0 u1 u2 u3 u4 u5 u6 u7 u8 u9 u10 u11 u12 u13 u14 u15 g0_ g1_
      simp only [List.map_cons, List.map_nil, g0_, g1_] at he
      subst he
      simp only [Tr.run] at h
      cases hc : (decide (steps.length ≤ 25) && decide (steps.all (okStep ML kk) = true) && decide (0 ≤ i) && decide (i ≤ steps.length)) with
      | false => rw [hc] at h; simp at h
      | true =>
      rw [hc] at h
      simp only [Bool.and_eq_true, decide_eq_true_eq] at hc
      obtain ⟨⟨⟨c0, c1⟩, c2⟩, c3⟩ := hc
      refine (loop13_1 FU kk k f t path name b c a ti p1 b2 cm2 a2 ti2 p2 p3 steps u0 u1 u2 u3 u4 u5 u6 u7 u8 u9 u10 u11 u12 u13 u14 u15 K c0 c1 FU i c2 c3 (by unfold FU; omega)).trans ?_
      rw [← h]
      rfl
    · simp [Tr.run] at h
theorem ok55 (W0 : World) : ∀ kk, EKOk Tryz.prog W0 55 (.pure (S55 kk)) := by
  intro kk
  induction kk with
  | zero => exact ek_void W0 fn55 S55_zero
  | succ kk ih => exact ok55s W0 kk ih
end Go.PS
end

section
namespace Go.PS
open Go.Proofs
set_option maxRecDepth 100000
theorem fn13 : FnOk Tryz.prog 13 81 [.tmp 4] (body Tryz.f13) := ⟨Tryz.f13, Tryz.func13, bodySome _ (by kernel_rfl), by kernel_rfl, by kernel_rfl, by kernel_rfl, by kernel_rfl⟩
theorem run13 (F : Nat) (kk : Nat) (l : List DV) (k f t : Int) (path name b : Str) (c : Int) (a : Bool) (ti p1 : Int) (b2 : Str) (cm2 : Int) (a2 : Bool) (ti2 p2
 p3 : Int) (steps : List DV) : runP (ctx F [(55, .pure (S55 kk)), (56, .pure S56)]) (L13 kk) 81 [.tmp 4] (body Tryz.f13) [.d (.agg [.int .i64 k, .int .i64 f, .int
 .i64 t, .str path, .str name, .str b, .int .i64 c, .bool a, .int .i64 ti, .int .i64 p1, .str b2, .int .i64 cm2, .bool a2, .int .i64 ti2, .int .i64 p2, .int .i64
 p3, .slc 12 steps]), .d (.slc 2 l)] = Tr.val (.cnd (decide ((↑steps.length : Int) > 25)) (.ok (PV.d (.bool false))) (.cnd (decide ((↑l.length : Int) > 30)) (.ok
 (PV.d (.bool false))) (.cnd (decide (IntKind.i64.wrap (IntKind.i64.wrap (IntKind.i64.wrap ((↑(List.length path) : Int) + (↑(List.length name) : Int)) +
 (↑(List.length b) : Int)) + (↑(List.length b2) : Int)) > 500)) (.ok (PV.d (.bool false))) (.chk (decide (l.length ≤ 30) && decide (l.all (okCn ML) = true) &&
 decide (0 ≤ 0) && decide (0 ≤ (↑l.length : Int))) (.cnd ((List.drop (Int.toNat 0) l).all shortC) (.chk (decide (steps.length ≤ 25) && decide (steps.all (okStep
 ML kk) = true) && decide (0 ≤ 0) && decide (0 ≤ (↑steps.length : Int))) (.cnd ((List.drop (Int.toNat 0) steps).all stepF) (.ok (PV.d (.bool true))) (.ok (PV.d
 (.bool false))))) (.ok (PV.d (.bool false)))))))) := by kernel_rfl
end Go.PS
end

section
namespace Go.PS
open Go.Proofs
set_option linter.all false
theorem ok13 (W0 : World) (kk : Nat) : EKOk Tryz.prog W0 13 (.pure (S13 kk)) := by
  refine pure_of (tyOk FU [(55, .pure (S55 kk)), (56, .pure S56)]) (look_ok (all_cons (ok55 W0 kk) (all_cons (ok56 W0) all_nil))) mixed fn13 (lps13 FU rfl kk) fun args r h => ?_
  unfold S13 at h
  split at h
  · rename_i k f t path name b c a ti p1 b2 cm2 a2 ti2 p2 p3 steps l
    refine (run13 FU kk l k f t path name b c a ti p1 b2 cm2 a2 ti2 p2 p3 steps).trans (Eq.trans ?_ h)
    simp only [Tr.val_chk, chk_some, Bool.and_eq_true, decide_eq_true_eq] at h
    obtain ⟨⟨⟨⟨⟨c0, c1⟩, c2⟩, c3⟩, c4⟩, c5⟩ := h.1
    clear h
    have w1 : IntKind.i64.wrap ((path.length : Int) + name.length) = (path.length : Int) + name.length := wrap64 (by omega) (by omega)
    have w2 : IntKind.i64.wrap ((path.length : Int) + name.length + b.length) = (path.length : Int) + name.length + b.length := wrap64 (by omega) (by omega)
    have w3 : IntKind.i64.wrap ((path.length : Int) + name.length + b.length + b2.length) = (path.length : Int) + name.length + b.length + b2.length := wrap64 (by omega) (by omega)
    have e1 : (steps.length : Int) > 25 ↔ ¬ (steps.length ≤ 25) := by omega
    have e2 : (l.length : Int) > 30 ↔ ¬ (l.length ≤ 30) := by omega
    have e3 : (path.length : Int) + name.length + b.length + b2.length > 500 ↔ ¬ (path.length + name.length + b.length + b2.length ≤ 500) := by omega
    have e4 : fewV path name b b2 steps l = (decide (steps.length ≤ 25) && decide (l.length ≤ 30) && decide (path.length + name.length + b.length + b2.length ≤ 500) && l.all shortC && steps.all stepF) := rfl
    simp only [Tr.val_ok, Tr.val_cnd, Tr.val_chk, cnd_i, chk_i, Bool.and_eq_true, decide_eq_true_eq, List.drop_zero, Int.toNat_zero, w1, w2, w3, e1, e2, e3, e4, c0, c1, c2, c3, c4, c5, Int.le_refl, Int.natCast_nonneg, and_self, and_true, if_true]
    generalize l.all shortC = x1
    generalize steps.all stepF = x2
    by_cases q1 : steps.length ≤ 25
    · by_cases q2 : l.length ≤ 30
      · by_cases q3 : path.length + name.length + b.length + b2.length ≤ 500
        · cases x1 <;> cases x2 <;> simp [q1, q2, q3]
        · simp [q1, q2, q3]
      · simp [q1, q2]
    · simp [q1]
  · simp [Tr.val_no] at h
end Go.PS
end

section
namespace Go.PS
open Go.Proofs
set_option linter.all false
theorem stepR_cn {B n : Nat} {l : List DV} {s : DV} (hl : l.all (okCn big) = true) (hb : l.length ≤ big) (hs : okStep B n s = true) (hB : B ≤ 999999) : (stepR n l s).1.all (okCn big) = true ∧ (stepR n l s).1.length ≤ big := by
  rw [stepR_eq hs]
  unfold stepTy stepCc
  split
  · exact ⟨rfl, by simp⟩
  · split
    · exact ⟨rfl, by simp⟩
    · exact step_cn hl hb hs hB
def sameL : List DV → List DV → Bool
  | x :: a, y :: b => (decide (cS x 0 = cS y 0) && decide (cI x 1 = cI y 1)) && sameL a b
  | _, _ => true
def sameC (a b : List DV) : Bool := decide (a.length = b.length) && sameL a b
theorem sameL_refl : ∀ a : List DV, sameL a a = true := by
  intro a
  induction a with
  | nil => rfl
  | cons x a ih => simp [sameL, ih]
theorem sameC_refl (a : List DV) : sameC a a = true := by simp [sameC, sameL_refl]
theorem sameL_drop {a b : List DV} {i : Int} (h0 : 0 ≤ i) (h : i < a.length) (hb : i < b.length) : sameL (a.drop i.toNat) (b.drop i.toNat) = ((decide (atS a i.toNat 0 = atS b i.toNat 0) && decide (atI a i.toNat 1 = atI b i.toNat 1)) && sameL (a.drop (i + 1).toNat) (b.drop (i + 1).toNat)) := by
  rw [drop_gt h0 h, drop_gt h0 hb]; rfl
def S17 : List PV → Tr PV
  | [.d (.slc 2 l), .d (.slc 2 r)] => .chk (l.all (okCn ML) && r.all (okCn ML) && decide (l.length ≤ big)) (.ok (.d (.bool (sameC l r))))
  | _ => .no
def T17_0 (st : St) : Tr (Ex × St) :=
  bif shape 26 [0, 1, 5] st.slots then
    match gt .undef st.slots 0, gt .undef st.slots 1, gt .undef st.slots 5, st.heap with
    | .d (.slc 2 l), .d (.slc 2 r), .d (.int .i64 i), [] =>
      .chk (decide (l.length ≤ big) && decide (l.all (okCn ML) = true) && decide (r.all (okCn ML) = true) && decide (l.length = r.length) && decide (0 ≤ i) && decide (i ≤ l.length)) (.cnd (sameL (l.drop i.toNat) (r.drop i.toNat)) (.ok (.exit 0, ⟨slots 26 [], []⟩)) (.ok (.ret, ⟨slots 26 [(4, .d (.bool false))], []⟩)))
    | _, _, _, _ => .no
  else .no
def L17 : Lps := fun i => bif Nat.beq i 4 then some (allBut 26 [0, 1, 5], allBut 26 [4], T17_0) else none
end Go.PS
end

section
namespace Go.PS
open Go.Proofs
set_option maxRecDepth 100000
theorem round17_0 (F : Nat) {R : Type} (l r : List DV) (i : Int) (K : Ex → St → Option R) (G : St → Option R) : roundK (pcodeK (ctx F []) noL (lp Tryz.f17 0)) 0
 (allBut 26 [0, 1, 5] ++ temps (lp Tryz.f17 0)) (allBut 26 [4]) ⟨slots 26 [(0, .d (.slc 2 l)), (1, .d (.slc 2 r)), (5, .d (.int .i64 i))], []⟩ K G = Tr.run (.cnd
 (decide (i < (↑l.length : Int))) (.chk (decide (0 ≤ i)) (.chk (decide (i.toNat < l.length)) (.chk (fits [.str [], .int .i64 0] (gt DV.nili l i.toNat).cells)
 (.chk (decide (0 ≤ i)) (.chk (decide (i.toNat < r.length)) (.chk (fits [.str [], .int .i64 0] (gt DV.nili r i.toNat).cells) (.cnd (!(decide (atS l i.toNat 0 =
 atS r i.toNat 0) && (decide (atI l i.toNat (0 + 1) = atI r i.toNat (0 + 1)) && true))) (.ok (.inl (Ex.ret, ⟨slots 26 [(4, .d (.bool false))], []⟩))) (.ok (.inr
 ⟨slots 26 [(0, .d (.slc 2 l)), (1, .d (.slc 2 r)), (5, .d (.int .i64 (IntKind.i64.wrap (i + 1))))], []⟩))))))))) (.ok (.inl (Ex.exit 0, ⟨slots 26 [], []⟩))))
 (rnd K G) := by kernel_rfl
theorem fn17 : FnOk Tryz.prog 17 26 [.tmp 4] (body Tryz.f17) := ⟨Tryz.f17, Tryz.func17, bodySome _ (by kernel_rfl), by kernel_rfl, by kernel_rfl, by kernel_rfl, by kernel_rfl⟩
theorem run17 (F : Nat) (l r : List DV) : runP (ctx F []) L17 26 [.tmp 4] (body Tryz.f17) [.d (.slc 2 l), .d (.slc 2 r)] = Tr.val (.cnd (!decide ((↑l.length :
 Int) = (↑r.length : Int))) (.ok (PV.d (.bool false))) (.chk (decide (l.length ≤ big) && decide (l.all (okCn ML) = true) && decide (r.all (okCn ML) = true) &&
 decide (l.length = r.length) && decide (0 ≤ 0) && decide (0 ≤ (↑l.length : Int))) (.cnd (sameL (List.drop (Int.toNat 0) l) (List.drop (Int.toNat 0) r)) (.ok
 (PV.d (.bool true))) (.ok (PV.d (.bool false)))))) := by kernel_rfl
end Go.PS
end

section
namespace Go.PS
open Go.Proofs
set_option linter.all false
theorem loop17_0 (F : Nat) {R : Type} (l : List DV) (r : List DV) (K : Ex → St → Option R) (g0 : l.length ≤ big) (g1 : l.all (okCn ML) = true) (g2 : r.all (okCn ML) = true) (g3 : l.length = r.length) :
    ∀ (m : Nat) (i : Int), 0 ≤ i → i ≤ l.length → (l.length - i).toNat < m →
      loopK (pcodeK (ctx F []) noL (lp Tryz.f17 0)) 0 (allBut 26 [0, 1, 5] ++ temps (lp Tryz.f17 0)) (allBut 26 [4]) m
        ⟨slots 26 [(0, .d (.slc 2 l)), (1, .d (.slc 2 r)), (5, .d (.int .i64 i))], []⟩ K =
      Tr.run (.cnd (sameL (l.drop i.toNat) (r.drop i.toNat)) (.ok (.exit 0, ⟨slots 26 [], []⟩)) (.ok (.ret, ⟨slots 26 [(4, .d (.bool false))], []⟩))) (fun p => K p.1 p.2) := by
  intro m
  induction m with
  | zero => intro i; intros; omega
  | succ m ih =>
    intro i h0 h1 hm
    rw [loopK_succ, round17_0]
    unfold big at g0
    simp only [Tr.run, rnd, cnd_i, chk_i, Bool.and_eq_true, decide_eq_true_eq]
    by_cases hi : i < l.length
    · have w : IntKind.i64.wrap (i + 1) = i + 1 := wrap64 (by omega) (by omega)
      have hx := okCn_fits (all_gt g1 (i := i) (by omega) (by omega))
      have hy := okCn_fits (all_gt g2 (i := i) (by omega) (by omega))
      have hj : i.toNat < l.length := by omega
      have hj2 : i.toNat < r.length := by omega
      have ih1 := ih (i + 1)
      simp only [Tr.run, cnd_i] at ih1
      rw [sameL_drop (by omega) (by omega) (by omega)]
      clear ih
      rw [hx, hy]
      grind
    · have e1 : l.drop i.toNat = [] := List.drop_of_length_le (by omega)
      have e2 : r.drop i.toNat = [] := List.drop_of_length_le (by omega)
      rw [e1, e2]
      simp [hi, sameL]
theorem lps17 (F : Nat) (hF : F = FU) : LpsOk (ctx F []) L17 (loopsOf (body Tryz.f17)) := by
  subst hF
  refine lps_one (c := lp Tryz.f17 0) rfl (by kernel_rfl) fun R st K r h => ?_
  unfold T17_0 at h
  cases hs : shape 26 [0, 1, 5] st.slots with
  | false => rw [hs] at h; simp [Tr.run] at h
  | true =>
  rw [hs] at h
  simp only [cond_true] at h
  have he := shape_eq hs
  obtain ⟨sl0, H⟩ := st
  dsimp only at h he ⊢
  split at h
  · rename_i l r i g0_ g1_ g2_
    simp only [List.map_cons, List.map_nil, g0_, g1_, g2_] at he
    subst he
    simp only [Tr.run] at h
    cases hc : (decide (l.length ≤ big) && decide (l.all (okCn ML) = true) && decide (r.all (okCn ML) = true) && decide (l.length = r.length) && decide (0 ≤ i) && decide (i ≤ l.length)) with
    | false => rw [hc] at h; simp at h
    | true =>
    rw [hc] at h
    simp only [Bool.and_eq_true, decide_eq_true_eq] at hc
    obtain ⟨⟨⟨⟨⟨c0, c1⟩, c2⟩, c3⟩, c4⟩, c5⟩ := hc
    refine (loop17_0 FU l r K c0 c1 c2 c3 FU i c4 c5 (by unfold FU; (try unfold big at *); omega)).trans ?_
    rw [← h]
    rfl
  · simp [Tr.run] at h
theorem ok17 (W0 : World) : EKOk Tryz.prog W0 17 (.pure S17) := by
  refine pure_of (tyOk FU []) (look_ok all_nil) mixed fn17 (lps17 FU rfl) fun args r h => ?_
  unfold S17 at h
  split at h
  · rename_i l r
    refine (run17 FU l r).trans (Eq.trans ?_ h)
    simp only [Tr.val_chk, chk_some, Bool.and_eq_true, decide_eq_true_eq] at h
    obtain ⟨⟨c0, c1⟩, c2⟩ := h.1
    clear h
    have e1 : ((l.length : Int) = (r.length : Int)) ↔ l.length = r.length := by omega
    simp only [Tr.val_ok, Tr.val_cnd, Tr.val_chk, cnd_i, chk_i, Bool.and_eq_true, decide_eq_true_eq, List.drop_zero, Int.toNat_zero, e1, c0, c1, c2, Int.le_refl, Int.natCast_nonneg, and_self, and_true, true_and, if_true, Bool.not_eq_true', decide_eq_false_iff_not, sameC]
    by_cases q : l.length = r.length
    · simp only [q, not_true_eq_false, if_false, if_true, decide_true, Bool.true_and]
      cases sameL l r <;> rfl
    · simp [q]
  · simp [Tr.val_no] at h
end Go.PS
end

section
namespace Go.PS
open Go.Proofs
set_option maxRecDepth 100000
set_option linter.all false
def ofO {α : Type} : Option α → Tr α
  | some a => .ok a
  | none => .no
theorem ofO_val {α : Type} (o : Option α) : (ofO o).val = o := by cases o <;> rfl
theorem fx89 : FnOk Tryz.prog 89 29 [.cell 2 30] (body Tryz.f89) := ⟨Tryz.f89, Tryz.func89, bodySome _ (by kernel_rfl), by kernel_rfl, by kernel_rfl, by kernel_rfl, by kernel_rfl⟩
theorem fx156 : FnOk Tryz.prog 156 64 [.cell 2 27] (body Tryz.f156) := ⟨Tryz.f156, Tryz.func156, bodySome _ (by kernel_rfl), by kernel_rfl, by kernel_rfl, by kernel_rfl, by kernel_rfl⟩
theorem fx160 : FnOk Tryz.prog 160 20 [.tmp 2] (body Tryz.f160) := ⟨Tryz.f160, Tryz.func160, bodySome _ (by kernel_rfl), by kernel_rfl, by kernel_rfl, by kernel_rfl, by kernel_rfl⟩
theorem fx159 : FnOk Tryz.prog 159 8 [] (body Tryz.f159) := ⟨Tryz.f159, Tryz.func159, bodySome _ (by kernel_rfl), by kernel_rfl, by kernel_rfl, by kernel_rfl, by kernel_rfl⟩
theorem fx215 : FnOk Tryz.prog 215 22 [.tmp 6] (body Tryz.f215) := ⟨Tryz.f215, Tryz.func215, bodySome _ (by kernel_rfl), by kernel_rfl, by kernel_rfl, by kernel_rfl, by kernel_rfl⟩
theorem fx244 : FnOk Tryz.prog 244 19 [.tmp 4] (body Tryz.f244) := ⟨Tryz.f244, Tryz.func244, bodySome _ (by kernel_rfl), by kernel_rfl, by kernel_rfl, by kernel_rfl, by kernel_rfl⟩
theorem fx245 : FnOk Tryz.prog 245 9 [.tmp 4] (body Tryz.f245) := ⟨Tryz.f245, Tryz.func245, bodySome _ (by kernel_rfl), by kernel_rfl, by kernel_rfl, by kernel_rfl, by kernel_rfl⟩
theorem fx246 : FnOk Tryz.prog 246 35 [.tmp 6] (body Tryz.f246) := ⟨Tryz.f246, Tryz.func246, bodySome _ (by kernel_rfl), by kernel_rfl, by kernel_rfl, by kernel_rfl, by kernel_rfl⟩
theorem fx216 : FnOk Tryz.prog 216 15 [.tmp 2] (body Tryz.f216) := ⟨Tryz.f216, Tryz.func216, bodySome _ (by kernel_rfl), by kernel_rfl, by kernel_rfl, by kernel_rfl, by kernel_rfl⟩
theorem fx217 : FnOk Tryz.prog 217 41 [.cell 4 142] (body Tryz.f217) := ⟨Tryz.f217, Tryz.func217, bodySome _ (by kernel_rfl), by kernel_rfl, by kernel_rfl, by kernel_rfl, by kernel_rfl⟩
theorem fx218 : FnOk Tryz.prog 218 31 [.cell 2 25] (body Tryz.f218) := ⟨Tryz.f218, Tryz.func218, bodySome _ (by kernel_rfl), by kernel_rfl, by kernel_rfl, by kernel_rfl, by kernel_rfl⟩
theorem fx247 : FnOk Tryz.prog 247 10 [.tmp 4] (body Tryz.f247) := ⟨Tryz.f247, Tryz.func247, bodySome _ (by kernel_rfl), by kernel_rfl, by kernel_rfl, by kernel_rfl, by kernel_rfl⟩
theorem fx157 : FnOk Tryz.prog 157 10 [.tmp 4] (body Tryz.f157) := ⟨Tryz.f157, Tryz.func157, bodySome _ (by kernel_rfl), by kernel_rfl, by kernel_rfl, by kernel_rfl, by kernel_rfl⟩
theorem fx158 : FnOk Tryz.prog 158 75 [.cell 4 54] (body Tryz.f158) := ⟨Tryz.f158, Tryz.func158, bodySome _ (by kernel_rfl), by kernel_rfl, by kernel_rfl, by kernel_rfl, by kernel_rfl⟩
theorem fx219 : FnOk Tryz.prog 219 7 [.cell 2 51] (body Tryz.f219) := ⟨Tryz.f219, Tryz.func219, bodySome _ (by kernel_rfl), by kernel_rfl, by kernel_rfl, by kernel_rfl, by kernel_rfl⟩
theorem fx248 : FnOk Tryz.prog 248 28 [.cell 8 51] (body Tryz.f248) := ⟨Tryz.f248, Tryz.func248, bodySome _ (by kernel_rfl), by kernel_rfl, by kernel_rfl, by kernel_rfl, by kernel_rfl⟩
theorem fx249 : FnOk Tryz.prog 249 7 [.cell 2 51] (body Tryz.f249) := ⟨Tryz.f249, Tryz.func249, bodySome _ (by kernel_rfl), by kernel_rfl, by kernel_rfl, by kernel_rfl, by kernel_rfl⟩
theorem fx266 : FnOk Tryz.prog 266 30 [.cell 2 51] (body Tryz.f266) := ⟨Tryz.f266, Tryz.func266, bodySome _ (by kernel_rfl), by kernel_rfl, by kernel_rfl, by kernel_rfl, by kernel_rfl⟩
theorem fx279 : FnOk Tryz.prog 279 53 [.cell 2 51] (body Tryz.f279) := ⟨Tryz.f279, Tryz.func279, bodySome _ (by kernel_rfl), by kernel_rfl, by kernel_rfl, by kernel_rfl, by kernel_rfl⟩
theorem fx287 : FnOk Tryz.prog 287 7 [.cell 2 48] (body Tryz.f287) := ⟨Tryz.f287, Tryz.func287, bodySome _ (by kernel_rfl), by kernel_rfl, by kernel_rfl, by kernel_rfl, by kernel_rfl⟩
theorem fx220 : FnOk Tryz.prog 220 32 [.tmp 4] (body Tryz.f220) := ⟨Tryz.f220, Tryz.func220, bodySome _ (by kernel_rfl), by kernel_rfl, by kernel_rfl, by kernel_rfl, by kernel_rfl⟩
theorem fx221 : FnOk Tryz.prog 221 8 [.tmp 2] (body Tryz.f221) := ⟨Tryz.f221, Tryz.func221, bodySome _ (by kernel_rfl), by kernel_rfl, by kernel_rfl, by kernel_rfl, by kernel_rfl⟩
theorem fx222 : FnOk Tryz.prog 222 9 [.tmp 2] (body Tryz.f222) := ⟨Tryz.f222, Tryz.func222, bodySome _ (by kernel_rfl), by kernel_rfl, by kernel_rfl, by kernel_rfl, by kernel_rfl⟩
noncomputable def lsX : List (Nat × Nat × List ResultVar × Code) := [(89, 29, [.cell 2 30], body Tryz.f89),
  (156, 64, [.cell 2 27], body Tryz.f156),
  (160, 20, [.tmp 2], body Tryz.f160),
  (159, 8, [], body Tryz.f159),
  (215, 22, [.tmp 6], body Tryz.f215),
  (244, 19, [.tmp 4], body Tryz.f244),
  (245, 9, [.tmp 4], body Tryz.f245),
  (246, 35, [.tmp 6], body Tryz.f246),
  (216, 15, [.tmp 2], body Tryz.f216),
  (217, 41, [.cell 4 142], body Tryz.f217),
  (218, 31, [.cell 2 25], body Tryz.f218),
  (247, 10, [.tmp 4], body Tryz.f247),
  (157, 10, [.tmp 4], body Tryz.f157),
  (158, 75, [.cell 4 54], body Tryz.f158),
  (219, 7, [.cell 2 51], body Tryz.f219),
  (248, 28, [.cell 8 51], body Tryz.f248),
  (249, 7, [.cell 2 51], body Tryz.f249),
  (266, 30, [.cell 2 51], body Tryz.f266),
  (279, 53, [.cell 2 51], body Tryz.f279),
  (287, 7, [.cell 2 48], body Tryz.f287),
  (220, 32, [.tmp 4], body Tryz.f220),
  (221, 8, [.tmp 2], body Tryz.f221),
  (222, 9, [.tmp 2], body Tryz.f222)]
theorem lsX_ok : ∀ p ∈ lsX, FnOk Tryz.prog p.1 p.2.1 p.2.2.1 p.2.2.2 := by
  intro p hp
  simp only [lsX, List.mem_cons, List.not_mem_nil, or_false] at hp
  rcases hp with rfl | rfl | rfl | rfl | rfl | rfl | rfl | rfl | rfl | rfl | rfl | rfl | rfl | rfl | rfl | rfl | rfl | rfl | rfl | rfl | rfl | rfl | rfl
  · exact fx89
  · exact fx156
  · exact fx160
  · exact fx159
  · exact fx215
  · exact fx244
  · exact fx245
  · exact fx246
  · exact fx216
  · exact fx217
  · exact fx218
  · exact fx247
  · exact fx157
  · exact fx158
  · exact fx219
  · exact fx248
  · exact fx249
  · exact fx266
  · exact fx279
  · exact fx287
  · exact fx220
  · exact fx221
  · exact fx222
def baseX : List (Nat × EK) := [(129, .pure S129), (134, .pure S134), (85, .pure S85), (33, .pure (S33 999999 100)), (201, .pure S201)]
noncomputable def envX (g : Nat × List ResultVar × Code → List PV → List PObj → Tr (Out × List PObj)) : List (Nat × EK) := baseX ++ lsX.map fun p => (p.1, .fr (g p.2))
noncomputable def xE : Nat → Nat × List ResultVar × Code → List PV → List PObj → Tr (Out × List PObj)
  | 0, _ => fun _ _ => .no
  | k + 1, x => fun a H => ofO (runE (ctx FU (envX fun y => xE k y)) noL x.1 x.2.1 x.2.2 a H)
theorem okX (W0 : World) (hW : Laid W0) : ∀ (k : Nat), ∀ p ∈ lsX, EKOk Tryz.prog W0 p.1 (.fr (xE k p.2)) := by
  intro k
  induction k with
  | zero => exact fun p hp => fr_of (tyOk FU []) (look_ok all_nil) mixed (lsX_ok p hp) (lpsOk_no _ _) fun args H r h => by cases h
  | succ k ih =>
    intro p hp
    refine fr_of (tyOk FU (envX fun y => xE k y)) (look_ok fun q hq => ?_) mixed (lsX_ok p hp) (lpsOk_no _ _) fun args H r h => by
      have h2 : (ofO (runE (ctx FU (envX fun y => xE k y)) noL p.2.1 p.2.2.1 p.2.2.2 args H)).val = some r := h
      rw [ofO_val] at h2; exact h2
    unfold envX at hq
    rcases List.mem_append.1 hq with hq | hq
    · exact (all_cons (ok129 W0) (all_cons (ok134 W0) (all_cons (ok85 W0) (all_cons (ok33 W0 999999 100) (all_cons (ok201 W0) all_nil))))) q hq
    · obtain ⟨p', hp', rfl⟩ := List.mem_map.1 hq
      exact ih p' hp'
noncomputable def x89 : Nat × List ResultVar × Code := (29, [.cell 2 30], body Tryz.f89)
noncomputable def S37e : List PV → List PObj → Tr (Out × List PObj) := fun args H => ofO (runDE (ctx 0 [(42, .pure S42p), (89, .fr (xE 30 x89))]) noL 28 [.cell 2 30, .cell 3 3, .cell 4 33] (headsC 3 (body Tryz.f37)) (opAt (hdS (dropC 3 (body Tryz.f37))) 0) 18 88 (tlS (dropC 3 (body Tryz.f37))) (frameD S88) args H)
theorem ok88w (W0 : World) : SoundD Tryz.prog W0 88 (frameD S88) := by
  refine SoundD.frame (recov_of (tyOk 0 []) (look_ok all_nil) mixed rc88 (lpsOk_no _ _) fun m args H r h => ?_)
  unfold S88 at h
  split at h
  · exact (run88 0 ..).trans h
  · exact (run88_2 0 ..).trans h
  · simp at h
theorem ok37e (W0 : World) (hW : Laid W0) : EKOk Tryz.prog W0 37 (.eff (frameT S37e)) :=
  effD_of (tyOk 0 [(42, .pure S42p), (89, .fr (xE 30 x89))]) (look_ok (all_cons (ok42p W0 hW) (all_cons (okX W0 hW 30 (89, x89) (by unfold lsX x89; exact List.mem_cons_self)) all_nil))) mixed fn37 (lpsOk_no _ _) df37 (ok88w W0) fun args H r h => by
    have h2 : (ofO _).val = some r := h
    rw [ofO_val] at h2; exact h2
end Go.PS
end

section
namespace Go.PS
open Go.Proofs
set_option linter.all false
def errI (b : Bool) : Int := if b = true then 0 else 2
def S20e : List PV → Tr PV
  | [.d (.slc 2 l)] => .chk (l.all (okCn big) && decide (l.length ≤ big)) (.ok (.d (.int .i64 (errI (rightC l)))))
  | _ => .no
theorem ok20e (W0 : World) (hW : Laid W0) : EKOk Tryz.prog W0 20 (.pure S20e) := pure_eq (ok20 W0 hW) fun args => rfl
def S15d (B n : Nat) : List PV → Tr PV
  | [.d (.slc 2 l), .d (.agg [.int .i64 k, .int .i64 f, .int .i64 t, .str path, .str name, .str b, .int .i64 c, .bool a, .int .i64 ti, .int .i64 p1, .str b2, .int .i64 cm2, .bool a2, .int .i64 ti2, .int .i64 p2, .int .i64 p3, .slc 12 steps])] => .chk (l.all (okCn big) && decide (l.length ≤ big) && steps.all (okStep B n) && decide (steps.length ≤ big) && decide (B ≤ 999999) && lensQ big path name b b2)
      (.ok (.tup [.d (.slc 2 (queryG n (rightQ n k f t path name b c a ti b2 cm2 a2 ti2 steps) steps (colsOf k l)).1), .d (.int .i64 (queryG n (rightQ n k f t path name b c a ti b2 cm2 a2 ti2 steps) steps (colsOf k l)).2.1), .d (.int .i64 (queryG n (rightQ n k f t path name b c a ti b2 cm2 a2 ti2 steps) steps (colsOf k l)).2.2)]))
  | _ => .no
theorem ok15d (W0 : World) (hW : Laid W0) (B n : Nat) : EKOk Tryz.prog W0 15 (.pure (S15d B n)) := by
  refine pure_low (ok15 W0 hW B n) fun args v' h => ?_
  unfold S15d at h
  split at h
  · simp only [Tr.val_chk, chk_some, Tr.val_ok, Option.some.injEq] at h
    obtain ⟨hc, rfl⟩ := h
    unfold S15
    simp only [Tr.val_chk, Tr.val_ok]
    rw [chk_t hc]
    exact ⟨_, rfl, rfl⟩
  · simp [Tr.val_no] at h
def S24d (B n : Nat) : List PV → Tr PV
  | [.d (.slc 2 l), .d v] => .chk (l.all (okCn big) && decide (l.length ≤ big) && okStep B n v && decide (B ≤ 999999))
      (.ok (.tup [.d (.slc 2 (stepTy n l v).1), .d (.int .i64 (stepTy n l v).2.1), .d (.int .i64 (stepTy n l v).2.2)]))
  | _ => .no
theorem ok24d (W0 : World) (hW : Laid W0) (B n : Nat) : EKOk Tryz.prog W0 24 (.pure (S24d B n)) := by
  refine pure_low (ok24 W0 hW B n) fun args v' h => ?_
  unfold S24d at h
  split at h
  · simp only [Tr.val_chk, chk_some, Tr.val_ok, Option.some.injEq] at h
    obtain ⟨hc, rfl⟩ := h
    unfold S24
    simp only [Tr.val_chk, Tr.val_ok]
    rw [chk_t hc]
    exact ⟨_, rfl, rfl⟩
  · simp [Tr.val_no] at h
def nil2 (S : List PV → Tr PV) : List PV → Tr PV
  | .d (.slc 0 []) :: r => S (.d (.slc 2 []) :: r)
  | a => S a
theorem enc_nil2 {o : Own} {w : World} {sig : List Nat} {x : Value} (h : PEnc o w sig (.d (.slc 0 [])) x) : PEnc o w sig (.d (.slc 2 [])) x := by
  cases h with
  | d h =>
    refine .d ?_
    cases h with
    | slcNil => exact .slcNil _
    | slcZ _ a => exact .slcZ _ a
    | slc _ vs b off cap xs hl hm hx hc =>
      cases hx
      exact .slc 2 [] b off cap [] hl hm .nil (fun i x h => by simp at h)
theorem pure_nil2 {P : Program} {W0 : World} {f : Nat} {S : List PV → Tr PV} (h : EKOk P W0 f (.pure S)) : EKOk P W0 f (.pure (nil2 S)) := by
  refine ⟨h.enters, fun args v hv o sig w xs g1 g2 g3 => ?_⟩
  unfold nil2 at hv
  split at hv
  · cases g3 with
    | cons g4 g5 => exact h.calls _ v hv o sig w _ g1 g2 (.cons (enc_nil2 g4) g5)
  · exact h.calls _ v hv o sig w _ g1 g2 g3
def ex1 : Str := [114, 111, 119, 115, 32, 111, 110, 32, 109, 97, 105, 110, 32, 124, 32, 119, 104, 101, 114, 101, 32, 112, 97, 116, 104, 32, 61, 32, 51]
def ex2 : Str := [118, 97, 108, 105, 100, 32, 51, 32, 111, 110, 32, 109, 97, 105, 110, 32, 124, 32, 115, 117, 109, 32, 118, 97, 108, 117, 101, 32, 98, 121, 32, 112, 97, 116, 104]
def S57 : List PV → List PObj → Tr (Out × List PObj)
  | [.d (.str s)], [] => .cnd (decide (s = ex1)) (.ok (.ret (.tup [.own 2 [], .d (.int .i64 21), .d (.int .i64 12)]), []))
      (.cnd (decide (s = ex2)) (.ok (.ret (.tup [.own 2 [mkCn [112, 97, 116, 104] 2, mkCn [116, 111, 116, 97, 108] 1], .d (.int .i64 0), .d (.int .i64 0)]), [])) .no)
  | _, _ => .no
set_option maxRecDepth 100000
theorem fn57 : FnOk Tryz.prog 57 22 [.tmp 2, .tmp 3, .tmp 4] (body Tryz.f57) := ⟨Tryz.f57, Tryz.func57, bodySome _ (by kernel_rfl), by kernel_rfl, by kernel_rfl, by kernel_rfl, by kernel_rfl⟩
theorem run57a : runE (ctx FU [(37, .eff (frameT S37e)), (15, .pure (nil2 (S15 999999 100)))]) noL 22 [.tmp 2, .tmp 3, .tmp 4] (body Tryz.f57) [.d (.str ex1)] []
 = some (.ret (.tup [.own 2 [], .d (.int .i64 21), .d (.int .i64 12)]), []) := by kernel_rfl
theorem run57b : runE (ctx FU [(37, .eff (frameT S37e)), (15, .pure (nil2 (S15 999999 100)))]) noL 22 [.tmp 2, .tmp 3, .tmp 4] (body Tryz.f57) [.d (.str ex2)] []
 = some (.ret (.tup [.own 2 [mkCn [112, 97, 116, 104] 2, mkCn [116, 111, 116, 97, 108] 1], .d (.int .i64 0), .d (.int .i64 0)]), []) := by kernel_rfl
theorem ok57 (W0 : World) (hW : Laid W0) : EKOk Tryz.prog W0 57 (.eff (frameT S57)) := by
  refine eff_of (tyOk FU [(37, .eff (frameT S37e)), (15, .pure (nil2 (S15 999999 100)))]) (look_ok (all_cons (ok37e W0 hW) (all_cons (pure_nil2 (ok15 W0 hW 999999 100)) all_nil))) mixed fn57 (lpsOk_no _ _) fun args H r h => ?_
  unfold S57 at h
  split at h
  · rename_i s
    simp only [Tr.val_cnd, Tr.val_ok, cnd_i, decide_eq_true_eq, Tr.val_no] at h
    split at h
    · rename_i e; subst e; exact run57a.trans h
    · split at h
      · rename_i e; subst e; exact run57b.trans h
      · cases h
  · simp [Tr.val_no] at h
def S14 : List PV → List PObj → Tr (Out × List PObj)
  | [], [] => .ok (.ret (.d (.bool true)), [])
  | _, _ => .no
end Go.PS
end

section
namespace Go.PS
open Go.Proofs
set_option maxRecDepth 100000
theorem fn14 : FnOk Tryz.prog 14 48 [.tmp 0] (body Tryz.f14) := ⟨Tryz.f14, Tryz.func14, bodySome _ (by kernel_rfl), by kernel_rfl, by kernel_rfl, by kernel_rfl, by kernel_rfl⟩
theorem run14 (F : Nat) : runE (ctx F [(57, .eff (frameT S57)), (17, .pure S17), (22, .pure S22)]) noL 48 [.tmp 0] (body Tryz.f14) [] [] = Tr.val (.ok ((Out.ret
 (PV.d (.bool true)), []))) := by kernel_rfl
end Go.PS
end

section
namespace Go.PS
open Go.Proofs
set_option linter.all false
theorem ok14 (W0 : World) (hW : Laid W0) : EKOk Tryz.prog W0 14 (.eff (frameT S14)) := by
  refine eff_of (tyOk FU [(57, .eff (frameT S57)), (17, .pure S17), (22, .pure S22)]) (look_ok (all_cons (ok57 W0 hW) (all_cons (ok17 W0) (all_cons (ok22 W0) all_nil)))) mixed fn14 (lpsOk_no _ _) fun args H r h => ?_
  unfold S14 at h
  split at h
  ·
    refine (run14 FU ).trans (Eq.trans ?_ h)
    rfl
  · simp [Tr.val_no] at h
end Go.PS
end

section
namespace Go.PS
open Go.Proofs
set_option linter.all false
theorem fold_cn {B n : Nat} (hB : B ≤ 999999) : ∀ {steps l : List DV}, steps.all (okStep B n) = true → l.all (okCn big) = true → l.length ≤ big → (foldG n steps l).1.all (okCn big) = true ∧ (foldG n steps l).1.length ≤ big := by
  intro steps
  induction steps with
  | nil => intro l _ a b; exact ⟨a, b⟩
  | cons s r ih =>
    intro l hs a b
    simp only [List.all_cons, Bool.and_eq_true] at hs
    unfold foldG
    split
    · exact ⟨rfl, by simp⟩
    · have := step_cn a b hs.1 hB
      exact ih hs.2 this.1 this.2
theorem queryG_cn {B n : Nat} {rq : Bool} {steps l : List DV} (hB : B ≤ 999999) (hs : steps.all (okStep B n) = true) (a : l.all (okCn big) = true) (b : l.length ≤ big) : (queryG n rq steps l).1.all (okCn big) = true ∧ (queryG n rq steps l).1.length ≤ big := by
  unfold queryG
  split
  · exact ⟨rfl, by simp⟩
  · exact fold_cn hB hs a b
theorem colsOf_cn {k : Int} {l : List DV} (a : l.all (okCn big) = true) (b : l.length ≤ big) : (colsOf k l).all (okCn big) = true ∧ (colsOf k l).length ≤ big := by
  unfold colsOf
  split
  · exact ⟨a, b⟩
  · have := src_cn k
    exact ⟨this.1, by unfold big; omega⟩
theorem take_last {steps : List DV} (h : steps.length ≠ 0) : steps = steps.take (steps.length - 1) ++ [gt .nili steps (steps.length - 1)] := by
  have e := drop_gt (l := steps) (i := ((steps.length - 1 : Nat) : Int)) (by omega) (by omega)
  have e1 : steps.drop (((steps.length - 1 : Nat) : Int) + 1).toNat = [] := List.drop_of_length_le (by omega)
  rw [e1] at e
  simp only [Int.toNat_natCast] at e
  rw [← e, List.take_append_drop]
theorem stepTy_cn8 {B n : Nat} {l : List DV} {s : DV} (hl : l.all (okCn big) = true) (hb : l.length ≤ big) (hs : okStep B n s = true) (hB : B ≤ 999999) : (stepTy n l s).1.all (okCn big) = true ∧ (stepTy n l s).1.length ≤ big := by
  rw [← stepR_eq hs]; exact stepR_cn hl hb hs hB
def S5 (kk : Nat) : List PV → List PObj → Tr (Out × List PObj)
  | [.d (.slc 2 l), .d (.agg [.int .i64 k, .int .i64 f, .int .i64 t, .str path, .str name, .str b, .int .i64 c, .bool a, .int .i64 ti, .int .i64 p1, .str b2, .int .i64 cm2, .bool a2, .int .i64 ti2, .int .i64 p2, .int .i64 p3, .slc 12 steps])], [] => .chk (l.all (okCn ML) && steps.all (okStep ML kk) && decide (path.length ≤ 200000000000000) && decide (name.length ≤ 200000000000000) && decide (b.length ≤ 200000000000000) && decide (b2.length ≤ 200000000000000)) (.ok (.ret (.d (.bool true)), []))
  | _, _ => .no
end Go.PS
end

section
namespace Go.PS
open Go.Proofs
set_option maxRecDepth 100000
theorem fn5 : FnOk Tryz.prog 5 107 [.tmp 4] (body Tryz.f5) := ⟨Tryz.f5, Tryz.func5, bodySome _ (by kernel_rfl), by kernel_rfl, by kernel_rfl, by kernel_rfl, by kernel_rfl⟩
theorem run5 (F : Nat) (kk : Nat) (l : List DV) (k f t : Int) (path name b : Str) (c : Int) (a : Bool) (ti p1 : Int) (b2 : Str) (cm2 : Int) (a2 : Bool) (ti2 p2
 p3 : Int) (steps : List DV) : runE (ctx F [(13, .pure (S13 kk)), (14, .eff (frameT S14)), (15, .pure (S15d 20000 kk)), (17, .pure S17), (20, .pure S20e), (24,
 .pure (S24d 20000 kk))]) noL 107 [.tmp 4] (body Tryz.f5) [.d (.slc 2 l), .d (.agg [.int .i64 k, .int .i64 f, .int .i64 t, .str path, .str name, .str b, .int .i64
 c, .bool a, .int .i64 ti, .int .i64 p1, .str b2, .int .i64 cm2, .bool a2, .int .i64 ti2, .int .i64 p2, .int .i64 p3, .slc 12 steps])] [] = Tr.val (.chk
 (steps.all (okStep ML kk) && l.all (okCn ML) && decide (List.length path ≤ 200000000000000) && decide (List.length name ≤ 200000000000000) && decide (List.length
 b ≤ 200000000000000) && decide (List.length b2 ≤ 200000000000000)) (.cnd (!fewV path name b b2 steps l) (.ok ((Out.ret (PV.d (.bool true)), []))) (.cnd (decide
 ((↑steps.length : Int) = 0)) (.ok ((Out.ret (PV.d (.bool true)), []))) (.chk (l.all (okCn big) && decide (l.length ≤ big) && steps.all (okStep 20000 kk) &&
 decide (steps.length ≤ big) && decide (20000 ≤ 999999) && lensQ big path name b b2) (.cnd (decide ((queryG kk (rightQ kk k f t path name b c a ti b2 cm2 a2 ti2
 steps) steps (colsOf k l)).snd.snd = 2)) (.cnd (decide ((↑(queryG kk (rightQ kk k f t path name b c a ti b2 cm2 a2 ti2 steps) steps (colsOf k l)).fst.length :
 Int) = 0)) (.cnd (decide ((queryG kk (rightQ kk k f t path name b c a ti b2 cm2 a2 ti2 steps) steps (colsOf k l)).snd.fst = 0)) (.ok ((Out.ret (PV.d (.bool
 true)), []))) (.ok ((Out.ret (PV.d (.bool false)), [])))) (.ok ((Out.ret (PV.d (.bool false)), [])))) (.chk (decide ((↑0 : Int) ≤ IntKind.i64.wrap
 ((↑steps.length : Int) - 1))) (.chk (decide (IntKind.i64.wrap ((↑steps.length : Int) - 1) ≤ (↑steps.length : Int))) (.chk (l.all (okCn big) && decide (l.length ≤
 big) && (List.drop (↑0 : Int).toNat (List.take (IntKind.i64.wrap ((↑steps.length : Int) - 1)).toNat steps)).all (okStep 20000 kk) && decide ((List.drop (↑0 :
 Int).toNat (List.take (IntKind.i64.wrap ((↑steps.length : Int) - 1)).toNat steps)).length ≤ big) && decide (20000 ≤ 999999) && lensQ big path name b b2) (.cnd
 (!decide ((queryG kk (rightQ kk k f t path name b c a ti b2 cm2 a2 ti2 (List.drop (↑0 : Int).toNat (List.take (IntKind.i64.wrap ((↑steps.length : Int) -
 1)).toNat steps))) (List.drop (↑0 : Int).toNat (List.take (IntKind.i64.wrap ((↑steps.length : Int) - 1)).toNat steps)) (colsOf k l)).snd.snd = 0)) (.cnd (decide
 ((queryG kk (rightQ kk k f t path name b c a ti b2 cm2 a2 ti2 steps) steps (colsOf k l)).snd.snd = (queryG kk (rightQ kk k f t path name b c a ti b2 cm2 a2 ti2
 (List.drop (↑0 : Int).toNat (List.take (IntKind.i64.wrap ((↑steps.length : Int) - 1)).toNat steps))) (List.drop (↑0 : Int).toNat (List.take (IntKind.i64.wrap
 ((↑steps.length : Int) - 1)).toNat steps)) (colsOf k l)).snd.snd)) (.cnd (decide ((queryG kk (rightQ kk k f t path name b c a ti b2 cm2 a2 ti2 steps) steps
 (colsOf k l)).snd.fst = (queryG kk (rightQ kk k f t path name b c a ti b2 cm2 a2 ti2 (List.drop (↑0 : Int).toNat (List.take (IntKind.i64.wrap ((↑steps.length :
 Int) - 1)).toNat steps))) (List.drop (↑0 : Int).toNat (List.take (IntKind.i64.wrap ((↑steps.length : Int) - 1)).toNat steps)) (colsOf k l)).snd.fst)) (.cnd
 (decide ((↑(queryG kk (rightQ kk k f t path name b c a ti b2 cm2 a2 ti2 steps) steps (colsOf k l)).fst.length : Int) = 0)) (.ok ((Out.ret (PV.d (.bool true)),
 []))) (.ok ((Out.ret (PV.d (.bool false)), [])))) (.ok ((Out.ret (PV.d (.bool false)), [])))) (.ok ((Out.ret (PV.d (.bool false)), [])))) (.chk (decide (0 ≤
 IntKind.i64.wrap ((↑steps.length : Int) - 1))) (.chk (decide ((IntKind.i64.wrap ((↑steps.length : Int) - 1)).toNat < steps.length)) (.chk (fits [.int .i64 0,
 .int .i64 0, .str [], .int .i64 0, .int .i64 0, .str [], .nils 7, .int .i64 0, .nils 3, .nils 3, .int .i64 0, .int .i64 0] (gt DV.nili steps (IntKind.i64.wrap
 ((↑steps.length : Int) - 1)).toNat).cells) (.chk ((queryG kk (rightQ kk k f t path name b c a ti b2 cm2 a2 ti2 (List.drop (↑0 : Int).toNat (List.take
 (IntKind.i64.wrap ((↑steps.length : Int) - 1)).toNat steps))) (List.drop (↑0 : Int).toNat (List.take (IntKind.i64.wrap ((↑steps.length : Int) - 1)).toNat steps))
 (colsOf k l)).fst.all (okCn big) && decide ((queryG kk (rightQ kk k f t path name b c a ti b2 cm2 a2 ti2 (List.drop (↑0 : Int).toNat (List.take (IntKind.i64.wrap
 ((↑steps.length : Int) - 1)).toNat steps))) (List.drop (↑0 : Int).toNat (List.take (IntKind.i64.wrap ((↑steps.length : Int) - 1)).toNat steps)) (colsOf k
 l)).fst.length ≤ big) && okStep 20000 kk (DV.agg [view steps (IntKind.i64.wrap ((↑steps.length : Int) - 1)).toNat 0 (.int .i64 0), view steps (IntKind.i64.wrap
 ((↑steps.length : Int) - 1)).toNat (0 + 1) (.int .i64 0), view steps (IntKind.i64.wrap ((↑steps.length : Int) - 1)).toNat (0 + 1 + 1) (.str []), view steps
 (IntKind.i64.wrap ((↑steps.length : Int) - 1)).toNat (0 + 1 + 1 + 1) (.int .i64 0), view steps (IntKind.i64.wrap ((↑steps.length : Int) - 1)).toNat (0 + 1 + 1 +
 1 + 1) (.int .i64 0), view steps (IntKind.i64.wrap ((↑steps.length : Int) - 1)).toNat (0 + 1 + 1 + 1 + 1 + 1) (.str []), view steps (IntKind.i64.wrap
 ((↑steps.length : Int) - 1)).toNat (0 + 1 + 1 + 1 + 1 + 1 + 1) (.nils 7), view steps (IntKind.i64.wrap ((↑steps.length : Int) - 1)).toNat (0 + 1 + 1 + 1 + 1 + 1
 + 1 + 1) (.int .i64 0), view steps (IntKind.i64.wrap ((↑steps.length : Int) - 1)).toNat (0 + 1 + 1 + 1 + 1 + 1 + 1 + 1 + 1) (.nils 3), view steps
 (IntKind.i64.wrap ((↑steps.length : Int) - 1)).toNat (0 + 1 + 1 + 1 + 1 + 1 + 1 + 1 + 1 + 1) (.nils 3), view steps (IntKind.i64.wrap ((↑steps.length : Int) -
 1)).toNat (0 + 1 + 1 + 1 + 1 + 1 + 1 + 1 + 1 + 1 + 1) (.int .i64 0), view steps (IntKind.i64.wrap ((↑steps.length : Int) - 1)).toNat (0 + 1 + 1 + 1 + 1 + 1 + 1 +
 1 + 1 + 1 + 1 + 1) (.int .i64 0)]) && decide (20000 ≤ 999999)) (.chk ((queryG kk (rightQ kk k f t path name b c a ti b2 cm2 a2 ti2 steps) steps (colsOf k
 l)).fst.all (okCn ML) && (stepTy kk (queryG kk (rightQ kk k f t path name b c a ti b2 cm2 a2 ti2 (List.drop (↑0 : Int).toNat (List.take (IntKind.i64.wrap
 ((↑steps.length : Int) - 1)).toNat steps))) (List.drop (↑0 : Int).toNat (List.take (IntKind.i64.wrap ((↑steps.length : Int) - 1)).toNat steps)) (colsOf k l)).fst
 (DV.agg [view steps (IntKind.i64.wrap ((↑steps.length : Int) - 1)).toNat 0 (.int .i64 0), view steps (IntKind.i64.wrap ((↑steps.length : Int) - 1)).toNat (0 + 1)
 (.int .i64 0), view steps (IntKind.i64.wrap ((↑steps.length : Int) - 1)).toNat (0 + 1 + 1) (.str []), view steps (IntKind.i64.wrap ((↑steps.length : Int) -
 1)).toNat (0 + 1 + 1 + 1) (.int .i64 0), view steps (IntKind.i64.wrap ((↑steps.length : Int) - 1)).toNat (0 + 1 + 1 + 1 + 1) (.int .i64 0), view steps
 (IntKind.i64.wrap ((↑steps.length : Int) - 1)).toNat (0 + 1 + 1 + 1 + 1 + 1) (.str []), view steps (IntKind.i64.wrap ((↑steps.length : Int) - 1)).toNat (0 + 1 +
 1 + 1 + 1 + 1 + 1) (.nils 7), view steps (IntKind.i64.wrap ((↑steps.length : Int) - 1)).toNat (0 + 1 + 1 + 1 + 1 + 1 + 1 + 1) (.int .i64 0), view steps
 (IntKind.i64.wrap ((↑steps.length : Int) - 1)).toNat (0 + 1 + 1 + 1 + 1 + 1 + 1 + 1 + 1) (.nils 3), view steps (IntKind.i64.wrap ((↑steps.length : Int) -
 1)).toNat (0 + 1 + 1 + 1 + 1 + 1 + 1 + 1 + 1 + 1) (.nils 3), view steps (IntKind.i64.wrap ((↑steps.length : Int) - 1)).toNat (0 + 1 + 1 + 1 + 1 + 1 + 1 + 1 + 1 +
 1 + 1) (.int .i64 0), view steps (IntKind.i64.wrap ((↑steps.length : Int) - 1)).toNat (0 + 1 + 1 + 1 + 1 + 1 + 1 + 1 + 1 + 1 + 1 + 1) (.int .i64 0)])).fst.all
 (okCn ML) && decide ((queryG kk (rightQ kk k f t path name b c a ti b2 cm2 a2 ti2 steps) steps (colsOf k l)).fst.length ≤ big)) (.cnd (sameC (queryG kk (rightQ
 kk k f t path name b c a ti b2 cm2 a2 ti2 steps) steps (colsOf k l)).fst (stepTy kk (queryG kk (rightQ kk k f t path name b c a ti b2 cm2 a2 ti2 (List.drop (↑0 :
 Int).toNat (List.take (IntKind.i64.wrap ((↑steps.length : Int) - 1)).toNat steps))) (List.drop (↑0 : Int).toNat (List.take (IntKind.i64.wrap ((↑steps.length :
 Int) - 1)).toNat steps)) (colsOf k l)).fst (DV.agg [view steps (IntKind.i64.wrap ((↑steps.length : Int) - 1)).toNat 0 (.int .i64 0), view steps (IntKind.i64.wrap
 ((↑steps.length : Int) - 1)).toNat (0 + 1) (.int .i64 0), view steps (IntKind.i64.wrap ((↑steps.length : Int) - 1)).toNat (0 + 1 + 1) (.str []), view steps
 (IntKind.i64.wrap ((↑steps.length : Int) - 1)).toNat (0 + 1 + 1 + 1) (.int .i64 0), view steps (IntKind.i64.wrap ((↑steps.length : Int) - 1)).toNat (0 + 1 + 1 +
 1 + 1) (.int .i64 0), view steps (IntKind.i64.wrap ((↑steps.length : Int) - 1)).toNat (0 + 1 + 1 + 1 + 1 + 1) (.str []), view steps (IntKind.i64.wrap
 ((↑steps.length : Int) - 1)).toNat (0 + 1 + 1 + 1 + 1 + 1 + 1) (.nils 7), view steps (IntKind.i64.wrap ((↑steps.length : Int) - 1)).toNat (0 + 1 + 1 + 1 + 1 + 1
 + 1 + 1) (.int .i64 0), view steps (IntKind.i64.wrap ((↑steps.length : Int) - 1)).toNat (0 + 1 + 1 + 1 + 1 + 1 + 1 + 1 + 1) (.nils 3), view steps
 (IntKind.i64.wrap ((↑steps.length : Int) - 1)).toNat (0 + 1 + 1 + 1 + 1 + 1 + 1 + 1 + 1 + 1) (.nils 3), view steps (IntKind.i64.wrap ((↑steps.length : Int) -
 1)).toNat (0 + 1 + 1 + 1 + 1 + 1 + 1 + 1 + 1 + 1 + 1) (.int .i64 0), view steps (IntKind.i64.wrap ((↑steps.length : Int) - 1)).toNat (0 + 1 + 1 + 1 + 1 + 1 + 1 +
 1 + 1 + 1 + 1 + 1) (.int .i64 0)])).fst) (.cnd (decide ((queryG kk (rightQ kk k f t path name b c a ti b2 cm2 a2 ti2 steps) steps (colsOf k l)).snd.fst = (stepTy
 kk (queryG kk (rightQ kk k f t path name b c a ti b2 cm2 a2 ti2 (List.drop (↑0 : Int).toNat (List.take (IntKind.i64.wrap ((↑steps.length : Int) - 1)).toNat
 steps))) (List.drop (↑0 : Int).toNat (List.take (IntKind.i64.wrap ((↑steps.length : Int) - 1)).toNat steps)) (colsOf k l)).fst (DV.agg [view steps
 (IntKind.i64.wrap ((↑steps.length : Int) - 1)).toNat 0 (.int .i64 0), view steps (IntKind.i64.wrap ((↑steps.length : Int) - 1)).toNat (0 + 1) (.int .i64 0), view
 steps (IntKind.i64.wrap ((↑steps.length : Int) - 1)).toNat (0 + 1 + 1) (.str []), view steps (IntKind.i64.wrap ((↑steps.length : Int) - 1)).toNat (0 + 1 + 1 + 1)
 (.int .i64 0), view steps (IntKind.i64.wrap ((↑steps.length : Int) - 1)).toNat (0 + 1 + 1 + 1 + 1) (.int .i64 0), view steps (IntKind.i64.wrap ((↑steps.length :
 Int) - 1)).toNat (0 + 1 + 1 + 1 + 1 + 1) (.str []), view steps (IntKind.i64.wrap ((↑steps.length : Int) - 1)).toNat (0 + 1 + 1 + 1 + 1 + 1 + 1) (.nils 7), view
 steps (IntKind.i64.wrap ((↑steps.length : Int) - 1)).toNat (0 + 1 + 1 + 1 + 1 + 1 + 1 + 1) (.int .i64 0), view steps (IntKind.i64.wrap ((↑steps.length : Int) -
 1)).toNat (0 + 1 + 1 + 1 + 1 + 1 + 1 + 1 + 1) (.nils 3), view steps (IntKind.i64.wrap ((↑steps.length : Int) - 1)).toNat (0 + 1 + 1 + 1 + 1 + 1 + 1 + 1 + 1 + 1)
 (.nils 3), view steps (IntKind.i64.wrap ((↑steps.length : Int) - 1)).toNat (0 + 1 + 1 + 1 + 1 + 1 + 1 + 1 + 1 + 1 + 1) (.int .i64 0), view steps
 (IntKind.i64.wrap ((↑steps.length : Int) - 1)).toNat (0 + 1 + 1 + 1 + 1 + 1 + 1 + 1 + 1 + 1 + 1 + 1) (.int .i64 0)])).snd.fst)) (.cnd (decide ((queryG kk (rightQ
 kk k f t path name b c a ti b2 cm2 a2 ti2 steps) steps (colsOf k l)).snd.snd = (stepTy kk (queryG kk (rightQ kk k f t path name b c a ti b2 cm2 a2 ti2 (List.drop
 (↑0 : Int).toNat (List.take (IntKind.i64.wrap ((↑steps.length : Int) - 1)).toNat steps))) (List.drop (↑0 : Int).toNat (List.take (IntKind.i64.wrap
 ((↑steps.length : Int) - 1)).toNat steps)) (colsOf k l)).fst (DV.agg [view steps (IntKind.i64.wrap ((↑steps.length : Int) - 1)).toNat 0 (.int .i64 0), view steps
 (IntKind.i64.wrap ((↑steps.length : Int) - 1)).toNat (0 + 1) (.int .i64 0), view steps (IntKind.i64.wrap ((↑steps.length : Int) - 1)).toNat (0 + 1 + 1) (.str
 []), view steps (IntKind.i64.wrap ((↑steps.length : Int) - 1)).toNat (0 + 1 + 1 + 1) (.int .i64 0), view steps (IntKind.i64.wrap ((↑steps.length : Int) -
 1)).toNat (0 + 1 + 1 + 1 + 1) (.int .i64 0), view steps (IntKind.i64.wrap ((↑steps.length : Int) - 1)).toNat (0 + 1 + 1 + 1 + 1 + 1) (.str []), view steps
 (IntKind.i64.wrap ((↑steps.length : Int) - 1)).toNat (0 + 1 + 1 + 1 + 1 + 1 + 1) (.nils 7), view steps (IntKind.i64.wrap ((↑steps.length : Int) - 1)).toNat (0 +
 1 + 1 + 1 + 1 + 1 + 1 + 1) (.int .i64 0), view steps (IntKind.i64.wrap ((↑steps.length : Int) - 1)).toNat (0 + 1 + 1 + 1 + 1 + 1 + 1 + 1 + 1) (.nils 3), view
 steps (IntKind.i64.wrap ((↑steps.length : Int) - 1)).toNat (0 + 1 + 1 + 1 + 1 + 1 + 1 + 1 + 1 + 1) (.nils 3), view steps (IntKind.i64.wrap ((↑steps.length : Int)
 - 1)).toNat (0 + 1 + 1 + 1 + 1 + 1 + 1 + 1 + 1 + 1 + 1) (.int .i64 0), view steps (IntKind.i64.wrap ((↑steps.length : Int) - 1)).toNat (0 + 1 + 1 + 1 + 1 + 1 + 1
 + 1 + 1 + 1 + 1 + 1) (.int .i64 0)])).snd.snd)) (.ok ((Out.ret (PV.d (.bool true)), []))) (.ok ((Out.ret (PV.d (.bool false)), [])))) (.ok ((Out.ret (PV.d (.bool
 false)), [])))) (.ok ((Out.ret (PV.d (.bool false)), [])))))))))))))))))) := by kernel_rfl
end Go.PS
end

section
namespace Go.PS
open Go.Proofs
set_option linter.all false
theorem ok5 (W0 : World) (hW : Laid W0) (kk : Nat) : EKOk Tryz.prog W0 5 (.eff (frameT (S5 kk))) := by
  refine eff_of (tyOk FU [(13, .pure (S13 kk)), (14, .eff (frameT S14)), (15, .pure (S15d 20000 kk)), (17, .pure S17), (20, .pure S20e), (24, .pure (S24d 20000 kk))]) (look_ok (all_cons (ok13 W0 kk) (all_cons (ok14 W0 hW) (all_cons (ok15d W0 hW 20000 kk) (all_cons (ok17 W0) (all_cons (ok20e W0 hW) (all_cons (ok24d W0 hW 20000 kk) all_nil))))))) mixed fn5 (lpsOk_no _ _) fun args H r h => ?_
  unfold S5 at h
  split at h
  · rename_i l k f t path name b c a ti p1 b2 cm2 a2 ti2 p2 p3 steps
    refine (run5 FU kk l k f t path name b c a ti p1 b2 cm2 a2 ti2 p2 p3 steps).trans (Eq.trans ?_ h)
    simp only [Tr.val_chk, chk_some, Bool.and_eq_true, decide_eq_true_eq] at h
    obtain ⟨⟨⟨⟨⟨c0, c1⟩, c2⟩, c3⟩, c4⟩, c5⟩ := h.1
    clear h
    simp only [Tr.val_ok, Tr.val_cnd, Tr.val_chk, cnd_i, chk_i, Bool.and_eq_true, decide_eq_true_eq, c0, c1, c2, c3, c4, c5, and_self, if_true, Bool.not_eq_true', decide_eq_false_iff_not]
    by_cases q : fewV path name b b2 steps l = true
    · obtain ⟨f1, f2, f3, f4, f5, f6, f7, f8⟩ := fewV_ok c1 c0 q
      have g1 : l.all (okCn big) = true := okCn_le f2 (by unfold big; omega)
      have g2 : l.length ≤ big := by unfold big; omega
      have g3 : steps.length ≤ big := by unfold big; omega
      have g4 : lensQ big path name b b2 = true := by
        simp only [lensQ, lenB, Bool.and_eq_true, decide_eq_true_eq]; unfold big; omega
      have e20 : 20000 ≤ 999999 := by omega
      by_cases hN : steps.length = 0
      · have : (steps.length : Int) = 0 := by omega
        simp only [q, this, Bool.true_eq_false, if_false, if_true]
      · have hN2 : ¬ ((steps.length : Int) = 0) := by omega
        have w : IntKind.i64.wrap ((steps.length : Int) - 1) = ((steps.length - 1 : Nat) : Int) := by
          rw [wrap64 (by omega) (by omega)]; omega
        have e0 : ((0 : Nat) : Int).toNat = 0 := rfl
        have hs := take_last hN
        have hx : okStep 20000 kk (gt .nili steps (steps.length - 1)) = true := by
          have := all_gt f1 (i := ((steps.length - 1 : Nat) : Int)) (by omega) (by omega)
          simpa using this
        have ht := okStep_fits hx
        have hvw := okStep_view hx
        have hL := colsOf_cn (k := k) g1 g2
        have hp : (steps.take (steps.length - 1)).all (okStep 20000 kk) = true := by
          rw [hs, List.all_append, Bool.and_eq_true] at f1; exact f1.1
        have hp2 : (steps.take (steps.length - 1)).length ≤ big := by rw [List.length_take]; omega
        have hA := queryG_cn (rq := rightQ kk k f t path name b c a ti b2 cm2 a2 ti2 steps) e20 f1 hL.1 hL.2
        have hP := queryG_cn (rq := rightQ kk k f t path name b c a ti b2 cm2 a2 ti2 (steps.take (steps.length - 1))) e20 hp hL.1 hL.2
        have hT := stepTy_cn8 hP.1 hP.2 hx e20
        have hAM := okCn_le hA.1 (B := ML) (by unfold big ML; omega)
        have hTM := okCn_le hT.1 (B := ML) (by unfold big ML; omega)
        have harg := fun z => query_arg (n := kk) (rq := rightQ kk k f t path name b c a ti b2 cm2 a2 ti2 steps) (steps := steps) (l := colsOf k l) z
        have hlaw : (queryG kk (rightQ kk k f t path name b c a ti b2 cm2 a2 ti2 steps) steps (colsOf k l)).2.2 ≠ 2 → queryG kk (rightQ kk k f t path name b c a ti b2 cm2 a2 ti2 steps) steps (colsOf k l) = if (queryG kk (rightQ kk k f t path name b c a ti b2 cm2 a2 ti2 (steps.take (steps.length - 1))) (steps.take (steps.length - 1)) (colsOf k l)).2.2 ≠ 0 then ([], (queryG kk (rightQ kk k f t path name b c a ti b2 cm2 a2 ti2 (steps.take (steps.length - 1))) (steps.take (steps.length - 1)) (colsOf k l)).2) else stepTy kk (queryG kk (rightQ kk k f t path name b c a ti b2 cm2 a2 ti2 (steps.take (steps.length - 1))) (steps.take (steps.length - 1)) (colsOf k l)).1 (gt .nili steps (steps.length - 1)) := by
          have key : ∀ (R1 R2 : Bool) (pre : List DV) (s : DV), (R1 = true → R2 = true) → (R1 = true → (pre ++ [s]).all (stepB kk) = true) → steps = pre ++ [s] → (queryG kk R1 steps (colsOf k l)).2.2 ≠ 2 → queryG kk R1 steps (colsOf k l) = if (queryG kk R2 pre (colsOf k l)).2.2 ≠ 0 then ([], (queryG kk R2 pre (colsOf k l)).2) else stepTy kk (queryG kk R2 pre (colsOf k l)).1 s := fun R1 R2 pre s a1 a2 a3 a4 => by
            rw [a3] at a4 ⊢
            exact query_snoc a1 a2 a4
          refine key _ _ _ _ (fun z => ?_) (fun z => ?_) hs
          · unfold rightQ at z ⊢
            simp only [Bool.and_eq_true, decide_eq_true_eq] at z ⊢
            obtain ⟨⟨z1, z2⟩, z3⟩ := z
            refine ⟨⟨by rw [List.length_take]; omega, z2⟩, ?_⟩
            rw [hs, List.all_append, Bool.and_eq_true] at z3; exact z3.1
          · unfold rightQ at z
            simp only [Bool.and_eq_true] at z
            rw [← hs]; exact z.2
        have d1 : ((0 : Nat) : Int) ≤ ((steps.length - 1 : Nat) : Int) := by omega
        have d2 : ((steps.length - 1 : Nat) : Int) ≤ (steps.length : Int) := by omega
        have d3 : (0 : Int) ≤ ((steps.length - 1 : Nat) : Int) := by omega
        have d4 : steps.length - 1 < steps.length := by omega
        simp only [w, e0, Int.toNat_zero, Int.toNat_natCast, List.drop_zero, hvw, q, hN2, g1, g2, g3, g4, f1, hp, hp2, e20, ht, hx, hA.2, hP.1, hP.2, hAM, hTM, d1, d2, d3, d4, and_self, if_true, if_false, Bool.true_eq_false]
        generalize queryG kk (rightQ kk k f t path name b c a ti b2 cm2 a2 ti2 steps) steps (colsOf k l) = A at *
        generalize queryG kk (rightQ kk k f t path name b c a ti b2 cm2 a2 ti2 (steps.take (steps.length - 1))) (steps.take (steps.length - 1)) (colsOf k l) = P at *
        generalize stepTy kk P.1 (gt .nili steps (steps.length - 1)) = T at *
        by_cases z : A.2.2 = 2
        · obtain ⟨r1, r2⟩ := harg z
          simp [z, r1, r2]
        · have hl := hlaw z
          by_cases y : P.2.2 = 0
          · rw [if_neg (by simpa using y)] at hl
            subst hl
            simp [z, y, sameC_refl]
          · rw [if_pos y] at hl
            subst hl
            simp only [y, not_false_eq_true, if_true]
            simp at z
            simp [z]
    · have q2 : fewV path name b b2 steps l = false := by simpa using q
      simp [q2]
  · simp [Tr.val_no] at h
end Go.PS
end

section
set_option maxRecDepth 100000
namespace Go.Proofs.YtcjcppnclfbjpaaGreatDoor
open Go.PS Go.Shelf Go.Lib
open Go.ChangeShapes Go.WideShapes Go.ChangeAt Go.RowKit
open Go.ChangeMaps (open_string shut_string)
theorem own : ownKnob Tryz.prog.godebug = none := by kernel_rfl
noncomputable abbrev laid : List (String × DataW Unit) := Rows.typesRightRow.laid
theorem laid_is : laid = [("math/bits.deBruijn32tab", Rows.laid_math_bits_deBruijn32tab), ("math/bits.deBruijn64tab", Rows.laid_math_bits_deBruijn64tab), ("internal/strconv.uint64pow10", Lib.tabData .u64 Lib.pow10Tab),
  ("unicode/utf8.acceptRanges", Lib.acceptData), ("strconv.ErrRange", Rows.laid_strconv_ErrRange), ("strconv.ErrSyntax", Rows.laid_strconv_ErrSyntax), ("unicode/utf8.first", Lib.firstData)] := by kernel_rfl
theorem star : "*" ++ "errors.errorString" = "*errors.errorString" := by decide
theorem row326 (u : TypeId) (h : Tryz.prog.typeName? 3 u = some "*errors.errorString") : u = 326 :=
  typeName_ptr_named (nm := "errors.errorString") (by rw [star]; kernel_rfl) (by kernel_rfl) (by decide) u (by rw [star]; exact h)
theorem laid_world {W : World} (h : laidMetH Tryz.prog laid W) : Laid W := by
  rw [MakeChecks.laidMetH_plain _ _ _ (by kernel_rfl)] at h
  rw [laid_is] at h
  have h2 := h.tail.tail
  obtain ⟨a1, t1, hv1, hc1, _, _⟩ := laid_sentinel (g := 7) h2.tail.tail (by kernel_rfl) (by kernel_rfl) Tryz.underlying233 row326 Tryz.underlying326 Tryz.underlying328 rfl rfl Tryz.underlying9 (by kernel_rfl) (by kernel_rfl)
  obtain ⟨a0, t0, hv0, hc0, _, _⟩ := laid_sentinel (g := 6) h2.tail.tail.tail (by kernel_rfl) (by kernel_rfl) Tryz.underlying233 row326 Tryz.underlying326 Tryz.underlying328 rfl rfl Tryz.underlying9 (by kernel_rfl) (by kernel_rfl)
  refine ⟨?_, ?_, ?_, ?_⟩
  · exact utf8Tabs_of_reads (ρ := Tryz.lays260_ren) Tryz.lays260 ⟨by kernel_rfl, by kernel_rfl, by kernel_rfl, by kernel_rfl, by kernel_rfl, by kernel_rfl, by kernel_rfl⟩ (Lib.laidMet.reads h2 (.tail _ (.tail _ (.tail _ (.tail _ (.head _)))))) (Lib.laidMet.reads h2 (.tail _ (.head _)))
  · exact tabIs_of_head (g := 1) (by kernel_rfl) (by kernel_rfl) Tryz.underlying299 Tryz.underlying282 (by kernel_rfl) (by kernel_rfl) h2
  · exact ⟨_, (World.var?_cell (by kernel_rfl) hv0 0).trans rfl, .inr ⟨_, _, rfl⟩⟩
  · exact ⟨_, (World.var?_cell (by kernel_rfl) hv1 0).trans rfl, .inr ⟨_, _, rfl⟩⟩
theorem laid_met (os : Os) (args : Array Value) : laidMetH Tryz.prog laid ((World.laidAll Tryz.prog os laid).forCall (fun _ _ => 0) ⟨#[], args, []⟩).memory := by
  rw [MakeChecks.laidMetH_plain _ _ _ (by kernel_rfl)]; exact laidMet_laidAll _ (by kernel_rfl) (by kernel_rfl)
def bare : Own := fun _ => none
theorem gl_bare (W : World) : Gl W bare W := ⟨Nat.le_refl _, fun _ _ => ⟨rfl, rfl⟩, fun _ h => absurd rfl h⟩
theorem law_eff {W : World} {f : Nat} {S : List PV → List PObj → Tr (Out × List PObj)} {vs : List PV} {xs : List Value} (h : EKOk Tryz.prog W f (.eff S)) (hx : PEncL bare W [] vs xs) (hS : (S vs []).val = some (.ret (.d (.bool true)), [])) :
    Calls Tryz.prog f xs.toArray W fun e W' => e = .returned (.bool true) ∧ Below W.heap.size W W' := by
  refine (Sound.calls h vs [] _ [] hS bare [] W xs (gl_bare W) ⟨rfl, fun id ob h => by simp at h⟩ hx).mono ?_
  rintro e W' ⟨o', sig', hg, _, hs, _, hm⟩
  cases e with
  | returned x =>
    dsimp only at hm
    exact ⟨by rw [hm.1.bool_inv], hs.os, hs.tape, hs.output, hs.size, fun k hk => (hg.keep k hk).1⟩
  | _ => exact hm.elim
theorem frame_d2 {S : List PV → List PObj → Tr (Out × List PObj)} {a b c : DV} (h : (S [.d a, .d b] []).val = some (.ret (.d c), [])) : (frameT S [.d a, .d b] []).val = some (.ret (.d c), []) := by
  show ((S [.d a, .d b] []).map fun p => (outOut (gid 0 []) p.1, putH (gid 0 []) [] [] p.2)).val = _
  rw [Tr.val_map, h]; rfl
end Go.Proofs.YtcjcppnclfbjpaaGreatDoor
end

section
set_option maxRecDepth 100000
namespace Go.Proofs.YtcjcppnclfbjpaaGreatDoor
open Go.PS Go.Shelf Go.Lib
open Go.ChangeShapes Go.WideShapes Go.ChangeAt Go.RowKit
open Go.PS.Lt (tyV plainT Leaves leafT ty_flat lightW light_each)
def tyL : List TypeId := [22, 104, 9, 102, 54, 44, 51, 45, 48, 46, 3, 49, 52, 164, 4, 30, 27, 23, 25, 28]
theorem plain_all : ∀ t, tyL.contains t = true → plainT Tryz.prog tyL t = true := by
  intro t ht
  unfold tyL at ht
  simp only [List.contains_cons, List.contains_nil, Bool.or_eq_true, beq_iff_eq, Bool.or_false] at ht
  rcases ht with rfl | rfl | rfl | rfl | rfl | rfl | rfl | rfl | rfl | rfl | rfl | rfl | rfl | rfl | rfl | rfl | rfl | rfl | rfl | rfl <;> kernel_rfl
theorem wf64 {n : Int} (wn : (Lit.int .i64 n).wf = true) : okI n = true := by
  have h : (decide (IntKind.i64.min ≤ n) && decide (n ≤ IntKind.i64.max)) = true := wn
  have e1 : IntKind.i64.min = -9223372036854775808 := by rfl
  have e2 : IntKind.i64.max = 9223372036854775807 := by rfl
  rw [e1, e2] at h
  exact h
theorem lf_int {n : Nat} {t : TypeId} {d : DV} (hu : Tryz.prog.underlying t = some (.int .i64)) (h : tyV Tryz.prog n t [d]) : ∃ m, d = .int .i64 m ∧ okI m = true := by
  cases n with
  | zero => exact h.elim
  | succ n =>
    unfold tyV at h; rw [hu] at h
    obtain ⟨m, e, w⟩ := h
    exact ⟨m, by simpa using e, wf64 w⟩
theorem lf_str {n : Nat} {t : TypeId} {d : DV} (hu : Tryz.prog.underlying t = some .string) (h : tyV Tryz.prog n t [d]) : ∃ s, d = .str s ∧ s.length ≤ 200000000000000 ∧ s.length ≤ ML := by
  cases n with
  | zero => exact h.elim
  | succ n =>
    unfold tyV at h; rw [hu] at h
    obtain ⟨m, e, w⟩ := h
    unfold reachBytes at w
    exact ⟨m, by simpa using e, by omega, by unfold ML; omega⟩
theorem lf_bool {n : Nat} {t : TypeId} {d : DV} (hu : Tryz.prog.underlying t = some .bool) (h : tyV Tryz.prog n t [d]) : ∃ b, d = .bool b := by
  cases n with
  | zero => exact h.elim
  | succ n =>
    unfold tyV at h; rw [hu] at h
    obtain ⟨m, e⟩ := h
    exact ⟨m, by simpa using e⟩
theorem lf_slc {n : Nat} {t e : TypeId} {c : Nat} {d : DV} (hu : Tryz.prog.underlying t = some (.slice e)) (hc : Tryz.prog.cellsOf e = c) (hs : Lt.isStruct Tryz.prog e = true) (h : tyV Tryz.prog (n + 1) t [d]) :
    ∃ vs, d = .slc c vs ∧ vs.length ≤ ML ∧ ∀ v ∈ vs, Lt.isAgg v = true ∧ tyV Tryz.prog n e v.cells := by
  unfold tyV at h; rw [hu] at h
  obtain ⟨vs, e1, hl, hv⟩ := h
  rw [hc] at e1
  exact ⟨vs, by simpa using e1, hl, fun v hm => ⟨by rw [(hv v hm).1, hs], (hv v hm).2⟩⟩
theorem agg_cells {v : DV} (h : Lt.isAgg v = true) : v = .agg v.cells := by
  cases v <;> first | rfl | (simp [Lt.isAgg] at h)
theorem st104 : Lt.isStruct Tryz.prog 104 = true := by kernel_rfl
theorem st164 : Lt.isStruct Tryz.prog 164 = true := by kernel_rfl
theorem st51 : Lt.isStruct Tryz.prog 51 = true := by kernel_rfl
theorem st54 : Lt.isStruct Tryz.prog 54 = true := by kernel_rfl
theorem ce104 : Tryz.prog.cellsOf 104 = 2 := by kernel_rfl
theorem ce164 : Tryz.prog.cellsOf 164 = 3 := by kernel_rfl
theorem ce51 : Tryz.prog.cellsOf 51 = 7 := by kernel_rfl
theorem ce54 : Tryz.prog.cellsOf 54 = 12 := by kernel_rfl
theorem lv104 : leafT Tryz.prog 5 104 = some [9, 102] := by kernel_rfl
theorem lv164 : leafT Tryz.prog 5 164 = some [9, 4, 3] := by kernel_rfl
theorem lv51 : leafT Tryz.prog 5 51 = some [45, 9, 46, 3, 9, 49, 3] := by kernel_rfl
theorem lv54 : leafT Tryz.prog 5 54 = some [44, 45, 9, 46, 3, 9, 49, 3, 52, 52, 3, 3] := by kernel_rfl
theorem lv30 : leafT Tryz.prog 5 30 = some [23, 3, 3, 9, 9, 9, 3, 4, 3, 3, 9, 3, 4, 3, 3, 3, 28] := by kernel_rfl
theorem ty_cn {n : Nat} {v : DV} (ha : Lt.isAgg v = true) (h : tyV Tryz.prog n 104 v.cells) : okCn ML v = true := by
  have f := ty_flat plain_all 5 n 104 _ _ rfl lv104 h
  rw [agg_cells ha]
  generalize v.cells = ds at *
  cases f with | cons a0 f =>
  cases f with | cons a1 f =>
  cases f
  obtain ⟨s, rfl, _, h0⟩ := lf_str Tryz.underlying9 a0
  obtain ⟨k, rfl, _⟩ := lf_int Tryz.underlying102 a1
  simp only [okCn, lenB, h0, decide_true]
theorem ty_col {n : Nat} {v : DV} (ha : Lt.isAgg v = true) (h : tyV Tryz.prog n 164 v.cells) : okCol ML v = true := by
  have f := ty_flat plain_all 5 n 164 _ _ rfl lv164 h
  rw [agg_cells ha]
  generalize v.cells = ds at *
  cases f with | cons a0 f =>
  cases f with | cons a1 f =>
  cases f with | cons a2 f =>
  cases f
  obtain ⟨s, rfl, _, h0⟩ := lf_str Tryz.underlying9 a0
  obtain ⟨b, rfl⟩ := lf_bool Tryz.underlying4 a1
  obtain ⟨k, rfl, _⟩ := lf_int Tryz.underlying3 a2
  simp only [okCol, lenB, h0, decide_true]
theorem all_of {f : DV → Bool} {l : List DV} (h : ∀ v ∈ l, f v = true) : l.all f = true := List.all_eq_true.2 h
theorem ty_cond : ∀ (n : Nat) (v : DV), Lt.isAgg v = true → tyV Tryz.prog n 51 v.cells → okC ML n v = true := by
  intro n
  induction n with
  | zero => intro v _ h; exact h.elim
  | succ n ih =>
    intro v ha h
    have f := ty_flat plain_all 5 _ 51 _ _ rfl lv51 h
    rw [agg_cells ha]
    generalize v.cells = ds at *
    cases f with | cons a0 f =>
    cases f with | cons a1 f =>
    cases f with | cons a2 f =>
    cases f with | cons a3 f =>
    cases f with | cons a4 f =>
    cases f with | cons a5 f =>
    cases f with | cons a6 f =>
    cases f
    obtain ⟨k, rfl, _⟩ := lf_int Tryz.underlying45 a0
    obtain ⟨c, rfl, _, h1⟩ := lf_str Tryz.underlying9 a1
    obtain ⟨vk, rfl, _⟩ := lf_int Tryz.underlying46 a2
    obtain ⟨vn, rfl, h3⟩ := lf_int Tryz.underlying3 a3
    obtain ⟨vs, rfl, _, h4⟩ := lf_str Tryz.underlying9 a4
    obtain ⟨L, rfl, h5, h6⟩ := lf_slc Tryz.underlying49 ce51 st51 a5
    obtain ⟨p, rfl, _⟩ := lf_int Tryz.underlying3 a6
    exact okC_mk8 h1 h4 h3 h5 (all_of fun x hx => ih x (h6 x hx).1 (h6 x hx).2)
theorem ty_step {n : Nat} {v : DV} (ha : Lt.isAgg v = true) (h : tyV Tryz.prog (n + 1) 54 v.cells) : okStep ML (n + 1) v = true := by
  have f := ty_flat plain_all 5 _ 54 _ _ rfl lv54 h
  rw [agg_cells ha]
  generalize v.cells = ds at *
  cases f with | cons b0 f =>
  cases f with | cons a0 f =>
  cases f with | cons a1 f =>
  cases f with | cons a2 f =>
  cases f with | cons a3 f =>
  cases f with | cons a4 f =>
  cases f with | cons a5 f =>
  cases f with | cons a6 f =>
  cases f with | cons b1 f =>
  cases f with | cons b2 f =>
  cases f with | cons b3 f =>
  cases f with | cons b4 f =>
  cases f
  obtain ⟨sk, rfl, _⟩ := lf_int Tryz.underlying44 b0
  obtain ⟨k, rfl, _⟩ := lf_int Tryz.underlying45 a0
  obtain ⟨c, rfl, _, h1⟩ := lf_str Tryz.underlying9 a1
  obtain ⟨vk, rfl, _⟩ := lf_int Tryz.underlying46 a2
  obtain ⟨vn, rfl, h3⟩ := lf_int Tryz.underlying3 a3
  obtain ⟨vs, rfl, _, h4⟩ := lf_str Tryz.underlying9 a4
  obtain ⟨L, rfl, h5, h6⟩ := lf_slc Tryz.underlying49 ce51 st51 a5
  obtain ⟨p, rfl, _⟩ := lf_int Tryz.underlying3 a6
  obtain ⟨cols, rfl, h7, h8⟩ := lf_slc Tryz.underlying52 ce164 st164 b1
  obtain ⟨bys, rfl, h9, h10⟩ := lf_slc Tryz.underlying52 ce164 st164 b2
  obtain ⟨m, rfl, h11⟩ := lf_int Tryz.underlying3 b3
  obtain ⟨sp, rfl, _⟩ := lf_int Tryz.underlying3 b4
  exact okStep_mk8 (okC_mk8 h1 h4 h3 h5 (all_of fun x hx => ty_cond n x (h6 x hx).1 (h6 x hx).2)) (all_of fun x hx => ty_col (h8 x hx).1 (h8 x hx).2) (all_of fun x hx => ty_col (h10 x hx).1 (h10 x hx).2) h11 h7 h9
theorem ty_step_pos {n : Nat} {ds : List DV} (h : tyV Tryz.prog n 54 ds) : ∃ m, n = m + 1 := by
  cases n with
  | zero => exact h.elim
  | succ m => exact ⟨m, rfl⟩
section
variable {H : Type} {enc : TypeId × Value → H} {W : World} {base : Nat} {held : Bool}
theorem single {u : DV} (h : Lt.isAgg u = false) : u.cells = [u] := by
  cases u <;> first | rfl | (simp [Lt.isAgg] at h)
theorem open_cns {r : Reach} {b0 : Nat} {v : Value} {d : DataW H} {ps : List MemPlace} (hval : Value.okWide Tryz.prog W r b0 22 v) (hd : DataW.Trod enc Tryz.prog W base (fun _ => true) held 22 v d ps) (hl : lightW Tryz.prog 22 d) :
    ∃ l : List DV, PEnc bare W [] (.d (.slc 2 l)) v ∧ l.all (okCn ML) = true := by
  obtain ⟨n, u, h1, h2, h3⟩ := Lt.open_arg plain_all rfl hval hd hl
  have h2 : Lt.isAgg u = false := by rw [h2]; kernel_rfl
  rw [single h2] at h3
  cases n with
  | zero => exact h3.elim
  | succ n =>
    obtain ⟨l, rfl, _, h4⟩ := lf_slc Tryz.underlying22 ce104 st104 h3
    exact ⟨l, h1, all_of fun x hx => ty_cn (h4 x hx).1 (h4 x hx).2⟩
theorem open_query {r : Reach} {b0 : Nat} {v : Value} {d : DataW H} {ps : List MemPlace} (hval : Value.okWide Tryz.prog W r b0 30 v) (hd : DataW.Trod enc Tryz.prog W base (fun _ => true) held 30 v d ps) (hl : lightW Tryz.prog 30 d) :
    ∃ (kk : Nat) (k f t : Int) (path name b : Str) (c : Int) (a : Bool) (ti p1 : Int) (b2 : Str) (cm2 : Int) (a2 : Bool) (ti2 p2 p3 : Int) (steps : List DV),
      PEnc bare W [] (.d (.agg [.int .i64 k, .int .i64 f, .int .i64 t, .str path, .str name, .str b, .int .i64 c, .bool a, .int .i64 ti, .int .i64 p1, .str b2, .int .i64 cm2, .bool a2, .int .i64 ti2, .int .i64 p2, .int .i64 p3, .slc 12 steps])) v ∧
      steps.all (okStep ML kk) = true ∧ path.length ≤ 200000000000000 ∧ name.length ≤ 200000000000000 ∧ b.length ≤ 200000000000000 ∧ b2.length ≤ 200000000000000 := by
  obtain ⟨n, u, h1, h2, h3⟩ := Lt.open_arg plain_all rfl hval hd hl
  have h2 : Lt.isAgg u = true := by rw [h2]; kernel_rfl
  have hp : ∃ m, n = m + 1 := by
    cases n with
    | zero => exact h3.elim
    | succ m => exact ⟨m, rfl⟩
  obtain ⟨m, rfl⟩ := hp
  have f := ty_flat plain_all 5 _ 30 _ _ rfl lv30 h3
  rw [agg_cells h2] at h1
  generalize u.cells = ds at *
  cases f with | cons a0 f =>
  cases f with | cons a1 f =>
  cases f with | cons a2 f =>
  cases f with | cons a3 f =>
  cases f with | cons a4 f =>
  cases f with | cons a5 f =>
  cases f with | cons a6 f =>
  cases f with | cons a7 f =>
  cases f with | cons a8 f =>
  cases f with | cons a9 f =>
  cases f with | cons a10 f =>
  cases f with | cons a11 f =>
  cases f with | cons a12 f =>
  cases f with | cons a13 f =>
  cases f with | cons a14 f =>
  cases f with | cons a15 f =>
  cases f with | cons a16 f =>
  cases f
  obtain ⟨k, rfl, _⟩ := lf_int Tryz.underlying23 a0
  obtain ⟨fr, rfl, _⟩ := lf_int Tryz.underlying3 a1
  obtain ⟨t, rfl, _⟩ := lf_int Tryz.underlying3 a2
  obtain ⟨path, rfl, l1, _⟩ := lf_str Tryz.underlying9 a3
  obtain ⟨name, rfl, l2, _⟩ := lf_str Tryz.underlying9 a4
  obtain ⟨b, rfl, l3, _⟩ := lf_str Tryz.underlying9 a5
  obtain ⟨c, rfl, _⟩ := lf_int Tryz.underlying3 a6
  obtain ⟨a, rfl⟩ := lf_bool Tryz.underlying4 a7
  obtain ⟨ti, rfl, _⟩ := lf_int Tryz.underlying3 a8
  obtain ⟨p1, rfl, _⟩ := lf_int Tryz.underlying3 a9
  obtain ⟨b2, rfl, l4, _⟩ := lf_str Tryz.underlying9 a10
  obtain ⟨cm2, rfl, _⟩ := lf_int Tryz.underlying3 a11
  obtain ⟨a2, rfl⟩ := lf_bool Tryz.underlying4 a12
  obtain ⟨ti2, rfl, _⟩ := lf_int Tryz.underlying3 a13
  obtain ⟨p2, rfl, _⟩ := lf_int Tryz.underlying3 a14
  obtain ⟨p3, rfl, _⟩ := lf_int Tryz.underlying3 a15
  obtain ⟨steps, rfl, _, h6⟩ := lf_slc Tryz.underlying28 ce54 st54 a16
  refine ⟨m, k, fr, t, path, name, b, c, a, ti, p1, b2, cm2, a2, ti2, p2, p3, steps, h1, ?_, l1, l2, l3, l4⟩
  refine all_of fun x hx => ?_
  obtain ⟨m', rfl⟩ := ty_step_pos (h6 x hx).2
  exact ty_step (h6 x hx).1 (h6 x hx).2
theorem light_of {ts : List TypeId} {ds : List (DataW H)} (h : (DataW.weightsEach Tryz.prog ts ds).all (· ≤ reachBytes) = true) : ∀ (i : Nat) t d, ts[i]? = some t → ds[i]? = some d → lightW Tryz.prog t d :=
  light_each fun n hn => by simpa using List.all_eq_true.1 h n hn
end
end Go.Proofs.YtcjcppnclfbjpaaGreatDoor
end

section
set_option maxRecDepth 100000
namespace Go.Proofs.YtcjcppnclfbjpaaGreatDoor
open Go
theorem band5 {a b : Bool} (ha : a = true) (hb : b = true) : (a && b) = true := by rw [ha, hb]; rfl
theorem j5_0 : (Rows.typesStepsRow.wf (OpenSpec.ofChange Rows.typesStepsSpec)) = true := by kernel_rfl
theorem j5_1 : (laidOutB Tryz.prog) = true := by kernel_rfl
theorem j5_2 : (mapsRowed Tryz.prog) = true := by kernel_rfl
theorem j5_3 : (Tryz.f5.params.all (Tryz.prog.readableRec ·)) = true := by kernel_rfl
theorem j5_4 : (namedTie Tryz.prog Rows.typesStepsRow.named Rows.typesStepsSpec.vars) = true := by kernel_rfl
theorem j5_5 : ((Rows.typesStepsRow.stops == [])) = true := by kernel_rfl
theorem j5_6 : ((Tryz.prog.stops == [])) = true := by kernel_rfl
theorem j5_7 : ((Rows.typesStepsRow.knobs == [])) = true := by kernel_rfl
theorem j5_8 : ((Tryz.prog.stopKnobs == [])) = true := by kernel_rfl
theorem j5_9 : ((Rows.typesStepsRow.inPlace == Tryz.prog.inPlace 5)) = true := by kernel_rfl
theorem j5_10 : ((Rows.typesStepsRow.unfollowed == Tryz.prog.unfollowed 5)) = true := by kernel_rfl
theorem j5_11 : ((Rows.typesStepsRow.recurses == Tryz.prog.recurses 5)) = true := by kernel_rfl
theorem j5_12 : ((Rows.typesStepsRow.named == Tryz.prog.varsNamed 5)) = true := by kernel_rfl
theorem j5_13 : ((Rows.typesStepsRow.maps == (Tryz.f5.params.toList ++ Rows.typesStepsSpec.plain.varTypes Tryz.prog).any (Tryz.prog.mapsRec ·))) = true := by kernel_rfl
theorem j5_14 : ((Rows.typesStepsRow.ifaces == (Tryz.f5.params.toList ++ Rows.typesStepsSpec.plain.varTypes Tryz.prog).any (Tryz.prog.ifacesRec ·))) = true := by kernel_rfl
theorem j5_15 : ((Rows.typesStepsRow.mapsOut == Tryz.prog.mapsAmong Tryz.f5.resultTypes.toList)) = true := by kernel_rfl
theorem j5_16 : ((Rows.typesStepsRow.loops == (Tryz.f5.params.toList ++ Rows.typesStepsSpec.plain.varTypes Tryz.prog).any (Tryz.prog.loopsFrom ·))) = true := by kernel_rfl
theorem j5_17 : ((Rows.typesStepsRow.wideKeys == (Tryz.f5.params.toList ++ Rows.typesStepsSpec.plain.varTypes Tryz.prog ++ Tryz.f5.resultTypes.toList).any (Tryz.prog.wideKeysFrom ·))) = true := by kernel_rfl
theorem j5_18 : (Rows.typesStepsSpec.vars.all (Tryz.prog.varReadable ·)) = true := by kernel_rfl
theorem j5_19 : (Tryz.f5.resultTypes.all (fun t => Tryz.prog.readableRec t && decide (t < Tryz.prog.types.size))) = true := by kernel_rfl
theorem j5_20 : ((Rows.typesStepsRow.ifacesOut == Tryz.f5.resultTypes.toList.any (Tryz.prog.ifacesRec ·))) = true := by kernel_rfl
theorem j5_21 : ((Rows.typesStepsRow.loopsOut == Tryz.f5.resultTypes.toList.any (Tryz.prog.loopsFrom ·))) = true := by kernel_rfl
theorem j5_22 : ((Rows.typesStepsRow.plainKeys == Tryz.prog.plainKeys)) = true := by kernel_rfl
theorem j5_23 : (Rows.typesStepsRow.shortTexts.isNone) = true := by kernel_rfl
theorem j5_24 : (Tryz.prog.stopsHeard) = true := by kernel_rfl
theorem j5_25 : (Tryz.prog.mayEnter) = true := by kernel_rfl
theorem j5_26 : ((Rows.typesStepsRow.lifted == Tryz.prog.liftsFinal)) = true := by kernel_rfl
theorem j5_27 : ((Tryz.prog.make == some Rows.typesStepsRow.make)) = true := by kernel_rfl
theorem j5_28 : ((Rows.typesStepsRow.kinds == (if Rows.typesStepsRow.domain.isEmpty then [] else Tryz.f5.params.toList.map fun t => match Tryz.prog.underlying t with | some (.int k) => some k | _ => none))) = true := by kernel_rfl
theorem j5_29 : ((Rows.typesStepsRow.pinned == Rows.typesStepsRow.pinnedBy)) = true := by kernel_rfl
theorem j5_30 : ((Rows.typesStepsRow.veiled == (Tryz.f5.params.toList ++ Rows.typesStepsSpec.plain.varTypes Tryz.prog ++ Tryz.f5.resultTypes.toList).any (Tryz.prog.veiledRec ·))) = true := by kernel_rfl
theorem j5_31 : (Rows.typesStepsRow.veiledFits Tryz.prog Tryz.f5.params.toList (Tryz.f5.params.toList ++ Rows.typesStepsSpec.plain.varTypes Tryz.prog ++ Tryz.f5.resultTypes.toList)) = true := by kernel_rfl
theorem joined5 : joinedFacts Tryz.prog 5 Tryz.f5 Rows.typesStepsSpec Rows.typesStepsRow = true := (band5 (band5 (band5 (band5 (band5 (band5 (band5 (band5 (band5 (band5 (band5 (band5 (band5 (band5 (band5 (band5 (band5 (band5 (band5 (band5 (band5 (band5 (band5 (band5 (band5 (band5 (band5 (band5 (band5 (band5 (band5 j5_0 j5_1) j5_2) j5_3) j5_4) j5_5) j5_6) j5_7) j5_8) j5_9) j5_10) j5_11) j5_12) j5_13) j5_14) j5_15) j5_16) j5_17) j5_18) j5_19) j5_20) j5_21) j5_22) j5_23) j5_24) j5_25) j5_26) j5_27) j5_28) j5_29) j5_30) j5_31)
end Go.Proofs.YtcjcppnclfbjpaaGreatDoor
end

section
set_option maxRecDepth 100000
namespace Go.Proofs.YtcjcppnclfbjpaaGreatDoor
open Go.PS Go.Shelf Go.Lib
open Go.ChangeShapes Go.WideShapes Go.ChangeAt Go.RowKit
open Go.ChangeMaps (open_string shut_string)
theorem s5_true {kk : Nat} {l : List DV} {k f t : Int} {path name b : Str} {c : Int} {a : Bool} {ti p1 : Int} {b2 : Str} {cm2 : Int} {a2 : Bool} {ti2 p2 p3 : Int} {steps : List DV} (h0 : l.all (okCn ML) = true) (h1 : steps.all (okStep ML kk) = true) (h2 : path.length ≤ 200000000000000) (h3 : name.length ≤ 200000000000000) (h4 : b.length ≤ 200000000000000) (h5 : b2.length ≤ 200000000000000) :
    (S5 kk [.d (.slc 2 l), .d (.agg [.int .i64 k, .int .i64 f, .int .i64 t, .str path, .str name, .str b, .int .i64 c, .bool a, .int .i64 ti, .int .i64 p1, .str b2, .int .i64 cm2, .bool a2, .int .i64 ti2, .int .i64 p2, .int .i64 p3, .slc 12 steps])] []).val = some (.ret (.d (.bool true)), []) := by
  unfold S5
  simp only [Tr.val_chk, Tr.val_ok]
  rw [chk_t (by simp only [h0, h1, h2, h3, h4, h5, decide_true, Bool.and_self])]
theorem typesSteps_lifted (os : Os) (started : os.Started) (H : Type) (enc : TypeId × Value → H) :
    ReturnsInHanded {} Tryz.checked os 5 .any (fun w args => (Rows.typesStepsSpec.pre enc Tryz.prog Tryz.f5 Rows.typesStepsRow.domain false w args ∧ laidMetH Tryz.prog Rows.typesStepsRow.laid w) ∧ sizedMet enc Tryz.prog Tryz.f5 (OpenSpec.ofChange Rows.typesStepsSpec) false w args)
      (Rows.typesStepsSpec.post enc Tryz.prog Tryz.f5 false true false false) := by
  refine returnsInHanded_of_change_and (C := Tryz.checked) (X := fun w _ => laidMetH Tryz.prog Rows.typesStepsRow.laid w) (fun _ _ _ hh h => h.of_heap hh) own started (by kernel_rfl) Tryz.func5
    (ChangeSpec.witness_at (enc := enc) (C := Tryz.checked) (os := os) (X := fun w _ => laidMetH Tryz.prog Rows.typesStepsRow.laid w) false (World.laidAll Tryz.prog os laid) #[.slice none 0 0, .agg #[.int .i64 0, .int .i64 0, .int .i64 0, .string ⟨#[]⟩, .string ⟨#[]⟩, .string ⟨#[]⟩, .int .i64 0, .bool false, .int .i64 0, .int .i64 0, .string ⟨#[]⟩, .int .i64 0, .bool false, .int .i64 0, .int .i64 0, .int .i64 0, .slice none 0 0]] 8 (World.laidAll_os _ _ _) (by kernel_rfl) (by kernel_rfl) (by kernel_rfl) (by kernel_rfl) (by kernel_rfl) (laid_met os _)) ?_
  intro W base args ds gs before hval0 hW _ hwt hL _
  have hval : ∀ (j : Nat) t v, Tryz.f5.params[j]? = some t → args[j]? = some v → Value.okWide Tryz.prog W .any base t v := hval0
  have hW' := hW
  obtain ⟨p, q, hA0, hV0, rfl, _, _⟩ := hW
  have hA : DataW.TrodAll enc Tryz.prog W 0 (fun _ => true) true Tryz.f5.params.toList args.toList ds p := hA0
  rw [Tryz.params5] at hA hval hwt
  obtain ⟨v0, v1, d0, d1, mp0, mp1, rfl, rfl, rfl, h0, h1⟩ := trodAll_two hA
  obtain ⟨rfl, rfl⟩ := trodVars_none hV0
  obtain ⟨l, e0, l0⟩ := open_cns (hval 0 22 _ rfl rfl) h0 (light_of hwt 0 22 _ rfl rfl)
  obtain ⟨kk, k, f, t, path, name, b, c, a, ti, p1, b2, cm2, a2, ti2, p2, p3, steps, e1, s0, s1, s2, s3, s4⟩ := open_query (hval 1 30 _ rfl rfl) h1 (light_of hwt 1 30 _ rfl rfl)
  have hlt0 : ∀ x ∈ mp0, x.block < W.heap.size := fun x hx => hW'.lt x (by simp [hx])
  have hlt1 : ∀ x ∈ mp1, x.block < W.heap.size := fun x hx => hW'.lt x (by simp [hx])
  have eR : ∀ d0 d1 : DataW H, Rows.typesStepsSpec.fn H ([d0, d1] ++ []) = { results := [.lit (.bool true)], args := [d0, d1] } := fun _ _ => rfl
  refine (law_eff (ok5 W (laid_world hL) kk) (.cons e0 (.cons e1 .nil)) (frame_d2 (s5_true l0 s0 s1 s2 s3 s4))).mono ?_
  rintro e W' ⟨rfl, bel⟩
  refine ⟨_, rfl, _, _, _, [], mp0 ++ mp1, [], hW', ?_, ?_, ?_, bel.frame _, fun h => by cases h⟩
  · rw [eR]; exact trodAll_mk1 (shut_bool Tryz.underlying4 true)
  · rw [eR]; exact trodAll_mk2 (Below.trod j5_1 (by kernel_rfl) (of_decide_eq_true (by kernel_rfl)) h0 bel hlt0) (Below.trod j5_1 (by kernel_rfl) (of_decide_eq_true (by kernel_rfl)) h1 bel hlt1)
  · rw [eR]; rfl
theorem typesSteps_holds : Rows.TypesStepsSaid :=
  OpenClaim.holds_of_wide 5 Tryz.f5 rfl rfl rfl rfl rfl rfl rfl ⟨rfl, rfl, rfl, rfl, rfl⟩ rfl rfl rfl rfl rfl (by kernel_rfl) Tryz.func5 joined5
    (of_decide_eq_true (by kernel_rfl)) (by unfold Func.isWrapper; rw [if_neg (of_decide_eq_false (by kernel_rfl))]; exact ⟨rfl, rfl⟩)
    (fun os started H enc _ => typesSteps_lifted os started H enc)
end Go.Proofs.YtcjcppnclfbjpaaGreatDoor
end

section
namespace Go.Proofs.YtcjcppnclfbjpaaGreatDoor
open Go
theorem typesSteps_card : Rows.TypesStepsCardSaid :=
  Claim7.holds_tied_plain_at .later [] [.data, .data, .data, .data, .sentinel, .sentinel, .pinned] true (true, "aebe2295ba4c7ebb28cd2e8660bbdf8793b722673adf2fd070e444e71d0bc54f") true
    typesSteps_holds (fun _ h => by cases h) (by kernel_rfl) (fun _ h => by cases h) typesSteps_row_tie rfl ⟨rfl, rfl⟩ (by kernel_rfl) rfl
    (fun f fn hf hfn => by
      obtain rfl : f = 5 := Option.some.inj ((show Tryz.prog.funcNamed "fasti/fastilaw18.TypesSteps" = some 5 by kernel_rfl).symm.trans hf) |>.symm
      obtain rfl : fn = Tryz.f5 := (Option.some.inj (Tryz.func5.symm.trans hfn)).symm
      exact ⟨by kernel_rfl, fun j t ht => by
        rw [Tryz.params5] at ht
        rcases j with _ | _ | j
        · obtain rfl : t = 22 := by simpa using ht.symm
          exact (show Tryz.prog.wantsStandIn 22 = false by kernel_rfl)
        · obtain rfl : t = 30 := by simpa using ht.symm
          exact (show Tryz.prog.wantsStandIn 30 = false by kernel_rfl)
        · simp at ht⟩)
    (by kernel_rfl)
#print axioms typesSteps_card
end Go.Proofs.YtcjcppnclfbjpaaGreatDoor
end
