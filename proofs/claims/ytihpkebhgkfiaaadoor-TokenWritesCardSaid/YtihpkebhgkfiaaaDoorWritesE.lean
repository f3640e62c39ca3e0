/- A part of the proof of the claim (the pure semantics PS and the contracts of the functions over it). -/
import Derived.Test.YtihpkebhgkfiaaaDoorWritesD
import Derived.Test.YtihpkebhgkfiaaaDoorPsC
import Derived.ChangeSlices
import Derived.ChangeArms
import Derived.Carry
set_option linter.all false
section
namespace Go.PS
open Go.Proofs
set_option linter.unusedSimpArgs false
theorem smallB_fold (c : Int) : (decide (97 ≤ c) && decide (c ≤ 122)) = smallB c := rfl
theorem loop92 (F : Nat) {R : Type} (s : List UInt8) (l : Int) (K : Ex → St → Option R) (hs : s.length ≤ 1000000) (hl : l = s.length) :
    ∀ (m : Nat) (i : Int), 0 ≤ i → i ≤ s.length → (s.length - i).toNat < m →
      loopK (pcodeK (ctx F [(95, .pure S95)]) noL (lp Tryd.f92 0)) 0 (allBut 31 [0, 7, 8] ++ temps (lp Tryd.f92 0)) (allBut 31 [0, 2]) m
        ⟨slots 31 [(0, .d (.str s)), (7, .d (.int .i64 l)), (8, .d (.int .i64 i))], []⟩ K =
      PS.cnd (wordTo s m i) (K (.exit 0) ⟨slots 31 [(0, .d (.str s))], []⟩) (K .ret ⟨slots 31 [(0, .d (.str s)), (2, .d (.bool false))], []⟩) := by
  intro m
  induction m with
  | zero => intro i _ _ hm; omega
  | succ m ih =>
    intro i h0 h1 hm
    rw [loopK_succ, round92_0]
    have w : i < s.length → IntKind.i64.wrap (i + 1) = i + 1 := fun _ => wrap64 (by omega) (by omega)
    have ih1 := ih (i + 1)
    clear ih
    simp only [cnd_if] at ih1
    simp only [Tr.run, rnd, chr_fold, smallB_fold, wordTo, cnd_if, chk_if, Bool.and_eq_true, decide_eq_true_eq]
    grind
theorem lps92 (F : Nat) (hF : F = FU) : LpsOk (ctx F [(95, .pure S95)]) L92 (loopsOf (body Tryd.f92)) := by
  refine lps_one (c := lp Tryd.f92 0) rfl (by kernel_rfl) fun R st K r h => ?_
  unfold T92 at h
  cases hs : shape 31 [0, 7, 8] st.slots with
  | false => rw [hs] at h; simp [Tr.run] at h
  | true =>
  rw [hs] at h
  simp only [cond_true] at h
  have he := shape_eq hs
  obtain ⟨sl0, H⟩ := st
  dsimp only at h he ⊢
  split at h
  · rename_i s l i g0 g1 g2
    simp only [List.map_cons, List.map_nil, g0, g1, g2] at he
    subst he
    simp only [Tr.run] at h
    cases hc : (decide (0 ≤ i) && decide (i ≤ s.length) && decide (s.length ≤ big) && decide (l = s.length)) with
    | false => rw [hc] at h; simp at h
    | true =>
    rw [hc] at h
    simp only [Bool.and_eq_true, decide_eq_true_eq] at hc
    obtain ⟨⟨⟨h0, h1⟩, h2⟩, h3⟩ := hc
    unfold big at h2
    refine (loop92 F s l K h2 h3 F i h0 h1 (by rw [hF]; unfold FU; omega)).trans ?_
    rw [← h, hF]
    rfl
  · simp [Tr.run] at h
theorem loop91 (F : Nat) {R : Type} (s : List UInt8) (K : Ex → St → Option R) (hs : s.length ≤ 1000000) :
    ∀ (m : Nat) (i : Int), 0 ≤ i → i ≤ s.length → (s.length - i).toNat < m →
      loopK (pcodeK (ctx F [(69, .pure S69), (71, .pure S71)]) noL (lp Tryd.f91 0)) 0 (allBut 28 [0, 3] ++ temps (lp Tryd.f91 0)) (allBut 28 [0, 2]) m
        ⟨slots 28 [(0, .d (.str s)), (3, .d (.int .i64 i))], []⟩ K =
      PS.cnd (wordTo s m i) (K (.exit 0) ⟨slots 28 [(0, .d (.str s))], []⟩) (K .ret ⟨slots 28 [(0, .d (.str s)), (2, .d (.bool false))], []⟩) := by
  intro m
  induction m with
  | zero => intro i _ _ hm; omega
  | succ m ih =>
    intro i h0 h1 hm
    rw [loopK_succ, round91_0]
    have w : i < s.length → IntKind.i64.wrap (i + 1) = i + 1 := fun _ => wrap64 (by omega) (by omega)
    have ih1 := ih (i + 1)
    clear ih
    simp only [cnd_if] at ih1
    simp only [Tr.run, rnd, chr_fold, wordTo, cnd_if, chk_if, Bool.and_eq_true, decide_eq_true_eq]
    grind
theorem lps91 (F : Nat) (hF : F = FU) : LpsOk (ctx F [(69, .pure S69), (71, .pure S71)]) L91 (loopsOf (body Tryd.f91)) := by
  refine lps_one (c := lp Tryd.f91 0) rfl (by kernel_rfl) fun R st K r h => ?_
  unfold T91 at h
  cases hs : shape 28 [0, 3] st.slots with
  | false => rw [hs] at h; simp [Tr.run] at h
  | true =>
  rw [hs] at h
  simp only [cond_true] at h
  have he := shape_eq hs
  obtain ⟨sl0, H⟩ := st
  dsimp only at h he ⊢
  split at h
  · rename_i s i g0 g1
    simp only [List.map_cons, List.map_nil, g0, g1] at he
    subst he
    simp only [Tr.run] at h
    cases hc : (decide (0 ≤ i) && decide (i ≤ s.length) && decide (s.length ≤ big)) with
    | false => rw [hc] at h; simp at h
    | true =>
    rw [hc] at h
    simp only [Bool.and_eq_true, decide_eq_true_eq] at hc
    obtain ⟨⟨h0, h1⟩, h2⟩ := hc
    unfold big at h2
    refine (loop91 F s K h2 F i h0 h1 (by rw [hF]; unfold FU; omega)).trans ?_
    rw [← h, hF]
    rfl
  · simp [Tr.run] at h
theorem ok92 (W0 : World) : EKOk Tryd.prog W0 92 (.pure S92) := by
  refine pure_of (tyOk FU [(95, .pure S95)]) (look_ok (all_cons (ok95 W0) all_nil)) mixed fn92 (lps92 FU rfl) fun args r h => ?_
  unfold S92 at h
  split at h
  · rename_i s
    refine (run92 FU s).trans ?_
    rw [← h]
    simp only [Tr.val_chk, chk_some, decide_eq_true_eq] at h
    have h0 := h.1
    simp only [Tr.val_ok, Tr.val_cnd, Tr.val_chk, cnd_i, chk_i, wordB, Bool.and_eq_true, decide_eq_true_eq]
    grind
  · simp [Tr.val_no] at h
theorem ok91 (W0 : World) : EKOk Tryd.prog W0 91 (.pure S92) := by
  refine pure_of (tyOk FU [(69, .pure S69), (71, .pure S71)]) (look_ok (all_cons (ok69 W0) (all_cons (ok71 W0) all_nil))) mixed fn91 (lps91 FU rfl) fun args r h => ?_
  unfold S92 at h
  split at h
  · rename_i s
    refine (run91 FU s).trans ?_
    rw [← h]
    simp only [Tr.val_chk, chk_some, decide_eq_true_eq] at h
    have h0 := h.1
    simp only [Tr.val_ok, Tr.val_cnd, Tr.val_chk, cnd_i, chk_i, wordB, Bool.and_eq_true, decide_eq_true_eq]
    grind
  · simp [Tr.val_no] at h
theorem rightE_iff (s : List UInt8) : decide (rightE 2 0 s = 0) = rightR 2 0 s := by
  unfold rightE; cases rightR 2 0 s <;> rfl
theorem ok63 (W0 : World) (hW : Laid W0) : EKOk Tryd.prog W0 63 (.pure S63) := by
  refine pure_of (tyOk FU [(21, .pure S21u), (92, .pure S92), (93, .pure S93)]) (look_ok (all_cons (ok21u W0 hW) (all_cons (ok92 W0) (all_cons (ok93 W0) all_nil)))) mixed fn63 (lpsOk_no _ _) fun args r h => ?_
  unfold S63 at h
  split at h
  · rename_i k s n a
    refine (run63 FU k n a s).trans ?_
    rw [← h]
    simp only [Tr.val_chk, chk_some, decide_eq_true_eq] at h
    have h0 := h.1
    simp only [Tr.val_ok, Tr.val_cnd, Tr.val_chk, cnd_i, chk_i, rightT, rightE_iff, decide_eq_true_eq, h0, if_true]
    by_cases k1 : k = 1
    · subst k1; grind
    by_cases k2 : k = 2
    · subst k2; grind
    by_cases k3 : k = 3
    · subst k3; grind
    by_cases k4 : k = 4
    · subst k4; grind
    grind
  · simp [Tr.val_no] at h
theorem ok62 (W0 : World) : EKOk Tryd.prog W0 62 (.pure S62) := by
  refine pure_of (tyOk FU [(50, .pure S50), (73, .pure S93), (91, .pure S92)]) (look_ok (all_cons (ok50 W0) (all_cons (ok73 W0) (all_cons (ok91 W0) all_nil)))) mixed fn62 (lpsOk_no _ _) fun args r h => ?_
  unfold S62 at h
  split at h
  · rename_i k s n a
    refine (run62 FU k n a s).trans ?_
    rw [← h]
    simp only [Tr.val_chk, chk_some, decide_eq_true_eq] at h
    have h0 := h.1
    have ha : (decide (0 ≤ a)) = !(decide (a < 0)) := by by_cases q : a < 0 <;> simp [q] <;> omega
    simp only [Tr.val_ok, Tr.val_cnd, Tr.val_chk, cnd_i, chk_i, tokRight, rightT, decide_eq_true_eq, h0, if_true, ha]
    by_cases q : a < 0
    · simp [q]
    have hq : decide (a < 0) = false := decide_eq_false q
    have hn : decide (n ≥ 1) = decide (0 < n) := by simp only [decide_eq_decide]; omega
    simp only [hq, hn, Bool.not_false, Bool.true_and, q, if_false]
    by_cases k1 : k = 1
    · subst k1; simp only [if_true]; cases wordB s <;> by_cases qn : n = 0 <;> by_cases ql : (s.length : Int) ≤ 12 <;> simp [qn, ql]
    by_cases k2 : k = 2
    · subst k2; grind
    by_cases k3 : k = 3
    · subst k3; grind
    by_cases k4 : k = 4
    · subst k4; grind
    grind
  · simp [Tr.val_no] at h
theorem ok33 (W0 : World) (hW : Laid W0) : EKOk Tryd.prog W0 33 (.pure S33) := by
  refine pure_of (tyOk FU [(63, .pure S63)]) (look_ok (all_cons (ok63 W0 hW) all_nil)) mixed fn33 (lpsOk_no _ _) fun args r h => ?_
  unfold S33 at h
  split at h
  · rename_i k s n a
    refine (run33 FU k n a s).trans ?_
    rw [← h]
    simp only [Tr.val_chk, chk_some, decide_eq_true_eq] at h
    have h0 := h.1
    simp only [Tr.val_ok, Tr.val_cnd, Tr.val_chk, cnd_i, chk_i, tokE, tokRight, decide_eq_true_eq, h0, if_true]
    grind
  · simp [Tr.val_no] at h
theorem ok34 (W0 : World) : EKOk Tryd.prog W0 34 (.pure S33) := by
  refine pure_of (tyOk FU [(62, .pure S62)]) (look_ok (all_cons (ok62 W0) all_nil)) mixed fn34 (lpsOk_no _ _) fun args r h => ?_
  unfold S33 at h
  split at h
  · rename_i k s n a
    refine (run34 FU k n a s).trans ?_
    rw [← h]
    simp only [Tr.val_chk, chk_some, decide_eq_true_eq] at h
    have h0 := h.1
    simp only [Tr.val_ok, Tr.val_cnd, Tr.val_chk, cnd_i, chk_i, tokE, decide_eq_true_eq, h0, if_true]
    grind
  · simp [Tr.val_no] at h
end Go.PS
end

section
namespace Go.PS
open Go.Proofs
set_option linter.unusedSimpArgs false
theorem tokRight_k {k n a : Int} {s : List UInt8} (h : tokRight k n a s = true) :
    0 ≤ a ∧ ((k = 1 ∧ n = 0 ∧ (s.length : Int) ≤ 12 ∧ wordB s = true) ∨ (k = 2 ∧ s = []) ∨ (k = 3 ∧ n = 0 ∧ rightR 2 0 s = true) ∨ (k = 4 ∧ s = [] ∧ 0 < n) ∨ (k = 5 ∧ n = 0 ∧ markB s = true)) := by
  simp only [tokRight, rightT, Bool.and_eq_true, Bool.or_eq_true, decide_eq_true_eq] at h
  grind
theorem rightE_t {k n : Int} {s : List UInt8} (h : rightR k n s = true) : rightE k n s = 0 := by unfold rightE; rw [if_pos h]
theorem right1 (n : Int) : rightR 1 n [] = true := rfl
theorem textV_1 (n : Int) : textV 1 n [] = Lib.itoa n := rfl
theorem textV_2 {s : List UInt8} (h : rightR 2 0 s = true) : textV 2 0 s = quoteR s := by unfold textV; rw [if_pos h, if_neg (by decide)]
theorem tokE_t {k n a : Int} {s : List UInt8} (h : tokRight k n a s = true) : tokE k n a s = 0 := by unfold tokE; rw [if_pos h]
theorem tokE_f {k n a : Int} {s : List UInt8} (h : tokRight k n a s = false) : tokE k n a s = 2 := by unfold tokE; rw [h]; rfl
theorem tokText_f {k n a : Int} {s : List UInt8} (h : tokRight k n a s = false) : tokText k n a s = [] := by unfold tokText; rw [h]; rfl
theorem tokText_t {k n a : Int} {s : List UInt8} (h : tokRight k n a s = true) :
    tokText k n a s = if k = 3 then quoteR s else if k = 2 then Lib.itoa n else if k = 4 then 35 :: Lib.itoa n else s := by unfold tokText; rw [if_pos h]
theorem hash_len (n : Int) (h1 : -9223372036854775808 ≤ n) (h2 : n ≤ 9223372036854775807) : ([35] : List UInt8).length + (Lib.itoa n).length ≤ 9223372036854775807 := by
  have := itoa_len20 n (by omega)
  simp only [List.length_cons, List.length_nil]
  omega
theorem bigs (n : Int) (h1 : -9223372036854775808 ≤ n) (h2 : n ≤ 9223372036854775807) :
    (decide (([] : List DV).length ≤ big) && decide (-9223372036854775808 ≤ n) && decide (n ≤ 9223372036854775807)) = true := by
  simp only [h1, h2, decide_true, Bool.and_true, decide_eq_true_eq]; unfold big; exact Nat.zero_le _
theorem bigs2 (s : List UInt8) (h : s.length ≤ big) :
    (decide (s.length ≤ big) && decide (-9223372036854775808 ≤ 0) && decide (0 ≤ 9223372036854775807)) = true := by
  simp only [h, decide_true, Bool.true_and]; decide
theorem ok30 (W0 : World) (hW : Laid W0) : EKOk Tryd.prog W0 30 (.pure S30) := by
  refine pure_of (tyOk FU [(20, .pure S20u), (33, .pure S33)]) (look_ok (all_cons (ok20u W0 hW) (all_cons (ok33 W0 hW) all_nil))) mixed fn30 (lpsOk_no _ _) fun args r h => ?_
  unfold S30 at h
  split at h
  · rename_i k s n a
    refine (run30 FU k n a s).trans ?_
    rw [← h]
    simp only [Tr.val_chk, chk_some, Bool.and_eq_true, decide_eq_true_eq] at h
    obtain ⟨⟨h0, h1⟩, h2⟩ := h.1
    clear h
    simp only [Tr.val_ok, Tr.val_cnd, Tr.val_chk]
    rw [chk_t (b := decide (s.length ≤ big) && decide (-9223372036854775808 ≤ n) && decide (n ≤ 9223372036854775807)) (by simp [h0, h1, h2])]
    rw [chk_p h0]
    cases hr : tokRight k n a s with
    | false => rw [tokE_f hr, tokText_f hr]; rfl
    | true =>
      rw [tokE_t hr, tokText_t hr]
      rw [cnd_f (by rfl)]
      rw [chk_t (bigs n h1 h2), chk_t (bigs n h1 h2), chk_t (bigs2 s h0), right1 n |> rightE_t, textV_1, chk_p (hash_len n h1 h2)]
      obtain ⟨_, (⟨rfl, _, _, _⟩ | ⟨rfl, _⟩ | ⟨rfl, _, h3⟩ | ⟨rfl, _⟩ | ⟨rfl, _⟩)⟩ := tokRight_k hr
      · rw [cnd_n (by decide), cnd_n (by decide), cnd_n (by decide)]; rfl
      · rw [cnd_n (by decide), cnd_p rfl]; rfl
      · rw [cnd_p rfl, rightE_t h3, textV_2 h3]; rfl
      · rw [cnd_n (by decide), cnd_n (by decide), cnd_p rfl]; rfl
      · rw [cnd_n (by decide), cnd_n (by decide), cnd_n (by decide)]; rfl
  · simp [Tr.val_no] at h
theorem ok32 (W0 : World) (hW : Laid W0) : EKOk Tryd.prog W0 32 (.pure S30) := by
  refine pure_of (tyOk FU [(51, .pure (S51 19)), (52, .pure S52), (62, .pure S62)]) (look_ok (all_cons (ok51 W0 19) (all_cons (ok52 W0) (all_cons (ok62 W0) all_nil)))) mixed fn32 (lpsOk_no _ _) fun args r h => ?_
  unfold S30 at h
  split at h
  · rename_i k s n a
    refine (run32 FU k n a s).trans ?_
    rw [← h]
    simp only [Tr.val_chk, chk_some, Bool.and_eq_true, decide_eq_true_eq] at h
    obtain ⟨⟨h0, h1⟩, h2⟩ := h.1
    clear h
    have hd : dOk 19 n = true := by simp only [dOk, Bool.and_eq_true, decide_eq_true_eq]; omega
    simp only [Tr.val_ok, Tr.val_cnd, Tr.val_chk]
    rw [chk_t (b := decide (s.length ≤ big) && decide (-9223372036854775808 ≤ n) && decide (n ≤ 9223372036854775807)) (by simp [h0, h1, h2])]
    rw [chk_p h0]
    cases hr : tokRight k n a s with
    | false => rw [tokE_f hr, tokText_f hr]; rfl
    | true =>
      rw [tokE_t hr, tokText_t hr]
      rw [cnd_f (by rfl)]
      rw [chk_t hd, chk_t hd, chk_p (hash_len n h1 h2)]
      obtain ⟨_, (⟨rfl, _, _, _⟩ | ⟨rfl, _⟩ | ⟨rfl, _, h3⟩ | ⟨rfl, _⟩ | ⟨rfl, _⟩)⟩ := tokRight_k hr
      · rw [cnd_n (by decide), cnd_n (by decide), cnd_n (by decide)]; rfl
      · rw [cnd_p rfl]; rfl
      · have ho : okR s = true := by simp only [rightR, Bool.or_eq_true, Bool.and_eq_true, decide_eq_true_eq] at h3; rcases h3 with h3 | h3; exact absurd h3.1 (by decide); exact h3.2
        rw [cnd_n (by decide), cnd_p rfl, quote_eq s h0 ho, chk_p h0]; rfl
      · rw [cnd_n (by decide), cnd_n (by decide), cnd_p rfl]; rfl
      · rw [cnd_n (by decide), cnd_n (by decide), cnd_n (by decide)]; rfl
  · simp [Tr.val_no] at h
end Go.PS
end

section
namespace Go.PS
open Go.Proofs
def cI (v : DV) (j : Nat) : Int := match gt .nili v.cells j with | .int _ n => n | _ => 0
def cS (v : DV) (j : Nat) : List UInt8 := match gt .nili v.cells j with | .str s => s | _ => []
/-- an element is a token, its number one of 64 bits -/
def okD (v : DV) : Bool := fits [.int .i64 0, .str [], .int .i64 0, .int .i64 0] v.cells && decide (-9223372036854775808 ≤ cI v 2) && decide (cI v 2 ≤ 9223372036854775807)
def shortD (v : DV) : Bool := decide ((cS v 1).length ≤ big)
def goodD (v : DV) : Bool := tokRight (cI v 0) (cI v 2) (cI v 3) (cS v 1)
def txD (v : DV) : List UInt8 := tokText (cI v 0) (cI v 2) (cI v 3) (cS v 1)
/-- few tokens, short ones -/
def fewL (l : List DV) : Bool := l.all fun v => decide ((cS v 1).length ≤ 100)
def fewB (l : List DV) : Bool := decide (l.length ≤ 1200) && fewL l
def joinX (l : List DV) : List UInt8 := Lib.join (l.map txD) [32]
def joinE (l : List DV) : Int := if l.all goodD = true then (if 2000 < (joinX l).length then 5 else 0) else 2
def joinT (l : List DV) : List UInt8 := if l.all goodD = true ∧ (joinX l).length ≤ 2000 then joinX l else []
/-- the reference's way: the text grows -/
def joinL : Bool → List UInt8 → List DV → List UInt8
  | _, s, [] => s
  | b, s, v :: l => if goodD v = true then joinL true (if b = true then s ++ [32] ++ txD v else s ++ txD v) l else s
def vsL : List DV → List DV → List DV
  | vs, [] => vs
  | vs, v :: l => if goodD v = true then vsL (vs ++ [.str (txD v)]) l else vs
def S31 : List PV → Tr PV
  | [.d (.slc 4 xs)] => .chk (xs.all okD) (.ok (.d (.bool (fewB xs))))
  | _ => .no
def S35 : List PV → Tr PV
  | [.d (.slc 4 xs)] => .chk (xs.all okD && xs.all shortD && decide (xs.length ≤ big)) (.ok (.tup [.d (.str (joinT xs)), .d (.int .i64 (joinE xs))]))
  | _ => .no
def T31 (st : St) : Tr (Ex × St) :=
  bif shape 20 [0, 3] st.slots then
    match gt .undef st.slots 0, gt .undef st.slots 3, st.heap with
    | .d (.slc 4 xs), .d (.int .i64 i), [] =>
      .chk (decide (0 ≤ i) && decide (i ≤ xs.length) && decide (xs.length ≤ big) && xs.all okD)
       (.cnd (fewL (xs.drop i.toNat))
        (.ok (.exit 0, ⟨slots 20 [(0, .d (.slc 4 xs))], []⟩))
        (.ok (.ret, ⟨slots 20 [(0, .d (.slc 4 xs)), (2, .d (.bool false))], []⟩)))
    | _, _, _ => .no
  else .no
def L31 : Lps := fun i => bif Nat.beq i 4 then some (allBut 20 [0, 3], allBut 20 [0, 2], T31) else none
def T36 (st : St) : Tr (Ex × St) :=
  bif shape 36 [0, 4, 5] st.slots then
    match gt .undef st.slots 0, gt .undef st.slots 4, gt .undef st.slots 5, st.heap with
    | .d (.slc 4 xs), .d (.str s), .d (.int .i64 i), [] =>
      .chk (decide (0 ≤ i) && decide (i ≤ xs.length) && decide (xs.length ≤ big) && xs.all okD && xs.all shortD && decide (s.length ≤ 300 * i))
       (.cnd ((xs.drop i.toNat).all goodD)
        (.ok (.exit 0, ⟨slots 36 [(4, .d (.str (joinL (decide (0 < i)) s (xs.drop i.toNat))))], []⟩))
        (.ok (.ret, ⟨slots 36 [(2, .d (.str [])), (3, .d (.int .i64 2)), (4, .d (.str (joinL (decide (0 < i)) s (xs.drop i.toNat))))], []⟩)))
    | _, _, _, _ => .no
  else .no
def L36 : Lps := fun i => bif Nat.beq i 3 then some (allBut 36 [0, 4, 5], allBut 36 [2, 3, 4], T36) else none
def T35 (st : St) : Tr (Ex × St) :=
  bif shape 35 [4, 10, 11, 12] st.slots then
    match gt .undef st.slots 4, gt .undef st.slots 10, gt .undef st.slots 11, gt .undef st.slots 12, st.heap with
    | .own 1 vs, .d (.slc 4 xs), .d (.int .i64 l), .d (.int .i64 i), [] =>
      .chk (decide (0 ≤ i) && decide (i ≤ xs.length) && decide (xs.length ≤ big) && xs.all okD && xs.all shortD && decide (vs.length ≤ i) && decide (l = xs.length))
       (.cnd ((xs.drop i.toNat).all goodD)
        (.ok (.exit 0, ⟨slots 35 [(4, .own 1 (vsL vs (xs.drop i.toNat)))], []⟩))
        (.ok (.ret, ⟨slots 35 [(2, .d (.str [])), (3, .d (.int .i64 2)), (4, .own 1 (vsL vs (xs.drop i.toNat)))], []⟩)))
    | _, _, _, _, _ => .no
  else .no
def L35 : Lps := fun i => bif Nat.beq i 3 then some (allBut 35 [4, 10, 11, 12], allBut 35 [2, 3, 4], T35) else none
end Go.PS
end

section
namespace Go.PS
open Go.Proofs
set_option maxRecDepth 100000
theorem round31_0 (F : Nat) {R : Type} (xs : List DV) (i : Int) (K : Ex → St → Option R) (G : St → Option R) : roundK (pcodeK (ctx F []) noL (lp Tryd.f31 0)) 0 (allBut 20 [0, 3] ++ temps (lp Tryd.f31 0)) (allBut 20 [0, 2]) ⟨slots 20 [(0, .d (.slc 4 xs)), (3, .d (.int .i64 i))], []⟩ K G =
    Tr.run
      (.cnd (decide (i < (↑xs.length : Int)))
        (.chk (decide (0 ≤ i))
        (.chk (decide (i.toNat < xs.length))
        (.chk (fits [.int .i64 0, .str [], .int .i64 0, .int .i64 0] (gt DV.nili xs i.toNat).cells)
        (.cnd (decide ((↑(atS xs i.toNat (0 + 1)).length : Int) > 100))
          (.ok (.inl (Ex.ret, ⟨slots 20 [(0, PV.d (DV.slc 4 xs)), (2, PV.d (DV.bool false))], []⟩)))
          (.ok (.inr ⟨slots 20 [(0, PV.d (DV.slc 4 xs)), (3, PV.d (DV.int IntKind.i64 (IntKind.i64.wrap (i + 1))))], []⟩))))))
        (.ok (.inl (Ex.exit 0, ⟨slots 20 [(0, PV.d (DV.slc 4 xs))], []⟩)))) (rnd K G) := by kernel_rfl
/-! fasti fastilaw16.few -/
theorem fn31 : FnOk Tryd.prog 31 20 [.tmp 2] (body Tryd.f31) := ⟨Tryd.f31, Tryd.func31, bodySome _ (by kernel_rfl), by kernel_rfl, by kernel_rfl, by kernel_rfl, by kernel_rfl⟩
theorem run31 (F : Nat) (xs : List DV) : runP (ctx F []) L31 20 [.tmp 2] (body Tryd.f31) [.d (.slc 4 xs)] =
    Tr.val
      (.cnd (decide ((↑xs.length : Int) > 1200))
        (.ok (PV.d (DV.bool false)))
        (.chk (decide (0 ≤ 0) && decide (0 ≤ (↑xs.length : Int)) && decide (xs.length ≤ big) && xs.all okD)
        (.cnd (fewL (List.drop (Int.toNat 0) xs))
          (.ok (PV.d (DV.bool true)))
          (.ok (PV.d (DV.bool false)))))) := by kernel_rfl
theorem round36_0 (F : Nat) {R : Type} (xs : List DV) (s : List UInt8) (i : Int) (K : Ex → St → Option R) (G : St → Option R) : roundK (pcodeK (ctx F [(32, .pure S30)]) noL (lp Tryd.f36 0)) 0 (allBut 36 [0, 4, 5] ++ temps (lp Tryd.f36 0)) (allBut 36 [2, 3, 4]) ⟨slots 36 [(0, .d (.slc 4 xs)), (4, .d (.str s)), (5, .d (.int .i64 i))], []⟩ K G =
    Tr.run
      (.cnd (decide (i < (↑xs.length : Int)))
        (.chk (decide (0 ≤ i))
        (.chk (decide (i.toNat < xs.length))
        (.chk (fits [.int .i64 0, .str [], .int .i64 0, .int .i64 0] (gt DV.nili xs i.toNat).cells)
        (.chk (decide ((atS xs i.toNat (0 + 1)).length ≤ big) && decide (-9223372036854775808 ≤ atI xs i.toNat (0 + 1 + 1)) &&
        decide (atI xs i.toNat (0 + 1 + 1) ≤ 9223372036854775807))
        (.cnd (!decide
          (tokE (atI xs i.toNat 0) (atI xs i.toNat (0 + 1 + 1)) (atI xs i.toNat (0 + 1 + 1 + 1)) (atS xs i.toNat (0 + 1)) = 0))
          (.ok (.inl (Ex.ret, ⟨slots 36 [(2, PV.d (DV.str ([] : List UInt8))), (3, PV.d
        (DV.int IntKind.i64
          (tokE (atI xs i.toNat 0) (atI xs i.toNat (0 + 1 + 1)) (atI xs i.toNat (0 + 1 + 1 + 1)) (atS xs i.toNat (0 + 1))))), (4, PV.d (DV.str s))], []⟩)))
          (.cnd (decide (i > 0))
            (.chk (decide (s.length + ([32] : List UInt8).length ≤ 9223372036854775807))
            (.chk (decide
        ((s ++ ([32] : List UInt8)).length +
            (tokText (atI xs i.toNat 0) (atI xs i.toNat (0 + 1 + 1)) (atI xs i.toNat (0 + 1 + 1 + 1))
                (atS xs i.toNat (0 + 1))).length ≤
          9223372036854775807))
            (.ok (.inr ⟨slots 36 [(0, PV.d (DV.slc 4 xs)), (4, PV.d
        (DV.str
          (s ++ ([32] : List UInt8) ++
            tokText (atI xs i.toNat 0) (atI xs i.toNat (0 + 1 + 1)) (atI xs i.toNat (0 + 1 + 1 + 1))
              (atS xs i.toNat (0 + 1))))), (5, PV.d (DV.int IntKind.i64 (IntKind.i64.wrap (i + 1))))], []⟩))))
            (.chk (decide
        (s.length +
            (tokText (atI xs i.toNat 0) (atI xs i.toNat (0 + 1 + 1)) (atI xs i.toNat (0 + 1 + 1 + 1))
                (atS xs i.toNat (0 + 1))).length ≤
          9223372036854775807))
            (.ok (.inr ⟨slots 36 [(0, PV.d (DV.slc 4 xs)), (4, PV.d
        (DV.str
          (s ++
            tokText (atI xs i.toNat 0) (atI xs i.toNat (0 + 1 + 1)) (atI xs i.toNat (0 + 1 + 1 + 1))
              (atS xs i.toNat (0 + 1))))), (5, PV.d (DV.int IntKind.i64 (IntKind.i64.wrap (i + 1))))], []⟩)))))))))
        (.ok (.inl (Ex.exit 0, ⟨slots 36 [(4, PV.d (DV.str s))], []⟩)))) (rnd K G) := by kernel_rfl
/-! fasti fastiref16.Join -/
theorem fn36 : FnOk Tryd.prog 36 36 [.tmp 2, .tmp 3] (body Tryd.f36) := ⟨Tryd.f36, Tryd.func36, bodySome _ (by kernel_rfl), by kernel_rfl, by kernel_rfl, by kernel_rfl, by kernel_rfl⟩
theorem run36 (F : Nat) (xs : List DV) : runP (ctx F [(32, .pure S30)]) L36 36 [.tmp 2, .tmp 3] (body Tryd.f36) [.d (.slc 4 xs)] =
    Tr.val
      (.chk (decide (0 ≤ 0) && decide (0 ≤ (↑xs.length : Int)) && decide (xs.length ≤ big) && xs.all okD && xs.all shortD &&
        decide ((↑([] : List UInt8).length : Int) ≤ 300 * 0))
      (.cnd ((List.drop (Int.toNat 0) xs).all goodD)
        (.cnd (decide ((↑(joinL (decide (0 < 0)) ([] : List UInt8) (List.drop (Int.toNat 0) xs)).length : Int) > 2000))
          (.ok (PV.tup [PV.d (DV.str ([] : List UInt8)), PV.d (DV.int IntKind.i64 (5))]))
          (.ok (PV.tup
        [PV.d (DV.str (joinL (decide (0 < 0)) ([] : List UInt8) (List.drop (Int.toNat 0) xs))),
          PV.d (DV.int IntKind.i64 (0))])))
        (.ok (PV.tup [PV.d (DV.str []), PV.d (DV.int IntKind.i64 (2))])))) := by kernel_rfl
theorem round35_0 (F : Nat) {R : Type} (xs vs : List DV) (l i : Int) (K : Ex → St → Option R) (G : St → Option R) : roundK (pcodeK (ctx F [(30, .pure S30), (56, .pure S56)]) noL (lp Tryd.f35 0)) 0 (allBut 35 [4, 10, 11, 12] ++ temps (lp Tryd.f35 0)) (allBut 35 [2, 3, 4]) ⟨slots 35 [(4, .own 1 vs), (10, .d (.slc 4 xs)), (11, .d (.int .i64 l)), (12, .d (.int .i64 i))], []⟩ K G =
    Tr.run
      (.cnd (decide (i < l))
        (.chk (decide (0 ≤ i))
        (.chk (decide (i.toNat < xs.length))
        (.chk (fits [.int .i64 0, .str [], .int .i64 0, .int .i64 0] (gt DV.nili xs i.toNat).cells)
        (.chk (decide ((atS xs i.toNat (0 + 1)).length ≤ big) && decide (-9223372036854775808 ≤ atI xs i.toNat (0 + 1 + 1)) &&
        decide (atI xs i.toNat (0 + 1 + 1) ≤ 9223372036854775807))
        (.cnd (!decide
          (tokE (atI xs i.toNat 0) (atI xs i.toNat (0 + 1 + 1)) (atI xs i.toNat (0 + 1 + 1 + 1)) (atS xs i.toNat (0 + 1)) = 0))
          (.ok (.inl (Ex.ret, ⟨slots 35 [(2, PV.d (DV.str ([] : List UInt8))), (3, PV.d
        (DV.int IntKind.i64
          (tokE (atI xs i.toNat 0) (atI xs i.toNat (0 + 1 + 1)) (atI xs i.toNat (0 + 1 + 1 + 1)) (atS xs i.toNat (0 + 1))))), (4, PV.own 1 vs)], []⟩)))
          (.chk (limit 16
        (vs.length +
          (fillS (rep 1 (zeroDV ((ctx F [(30, EK.pure S30), (56, EK.pure S56)]).ty 9)))
              [(0,
                  DV.str
                    (tokText (atI xs i.toNat 0) (atI xs i.toNat (0 + 1 + 1)) (atI xs i.toNat (0 + 1 + 1 + 1))
                      (atS xs i.toNat (0 + 1))))]).length))
          (.ok (.inr ⟨slots 35 [(4, PV.own 1
        (vs ++
          [DV.str
              (tokText (atI xs i.toNat 0) (atI xs i.toNat (0 + 1 + 1)) (atI xs i.toNat (0 + 1 + 1 + 1))
                (atS xs i.toNat (0 + 1)))])), (10, PV.d (DV.slc 4 xs)), (11, PV.d (DV.int IntKind.i64 l)), (12, PV.d (DV.int IntKind.i64 (IntKind.i64.wrap (i + 1))))], []⟩))))))))
        (.ok (.inl (Ex.exit 0, ⟨slots 35 [(4, PV.own 1 vs)], []⟩)))) (rnd K G) := by kernel_rfl
/-! fasti token.Join -/
theorem fn35 : FnOk Tryd.prog 35 35 [.tmp 2, .tmp 3] (body Tryd.f35) := ⟨Tryd.f35, Tryd.func35, bodySome _ (by kernel_rfl), by kernel_rfl, by kernel_rfl, by kernel_rfl, by kernel_rfl⟩
theorem run35 (F : Nat) (xs : List DV) : runP (ctx F [(30, .pure S30), (56, .pure S56)]) L35 35 [.tmp 2, .tmp 3] (body Tryd.f35) [.d (.slc 4 xs)] =
    Tr.val
      (.chk (decide (0 ≤ 0) && decide (0 ≤ (↑xs.length : Int)) && decide (xs.length ≤ big) && xs.all okD && xs.all shortD &&
          decide ((0 : Int) ≤ 0) &&
        decide ((↑xs.length : Int) = (↑xs.length : Int)))
      (.cnd ((List.drop (Int.toNat 0) xs).all goodD)
        (.chk (allStr (vsL [] (List.drop (Int.toNat 0) xs)) &&
          decide ((vsL [] (List.drop (Int.toNat 0) xs)).length ≤ 140737488355328) &&
        decide
          ((Lib.join (strsOf (vsL [] (List.drop (Int.toNat 0) xs))) ([32] : List UInt8)).length ≤ 140737488355328))
        (.cnd (decide ((↑(Lib.join (strsOf (vsL [] (List.drop (Int.toNat 0) xs))) ([32] : List UInt8)).length : Int) > 2000))
          (.ok (PV.tup [PV.d (DV.str ([] : List UInt8)), PV.d (DV.int IntKind.i64 (5))]))
          (.ok (PV.tup
        [PV.d (DV.str (Lib.join (strsOf (vsL [] (List.drop (Int.toNat 0) xs))) ([32] : List UInt8))),
          PV.d (DV.int IntKind.i64 (0))]))))
        (.ok (PV.tup [PV.d (DV.str []), PV.d (DV.int IntKind.i64 (2))])))) := by kernel_rfl
end Go.PS
end

section
namespace Go.PS
open Go.Proofs
set_option linter.unusedSimpArgs false
theorem atI_c (l : List DV) (i j : Nat) : atI l i j = cI (gt .nili l i) j := rfl
theorem atS_c (l : List DV) (i j : Nat) : atS l i j = cS (gt .nili l i) j := rfl
theorem drop_gt {l : List DV} {i : Int} (h0 : 0 ≤ i) (h : i < l.length) : l.drop i.toNat = gt .nili l i.toNat :: l.drop (i + 1).toNat := by
  rw [List.drop_eq_getElem_cons (show i.toNat < l.length by omega), show (i + 1).toNat = i.toNat + 1 by omega, gt_eq]
  simp [show i.toNat < l.length by omega]
theorem all_gt {p : DV → Bool} {l : List DV} (h : l.all p = true) {i : Int} (h0 : 0 ≤ i) (hi : i < l.length) : p (gt .nili l i.toNat) = true := by
  rw [List.all_eq_true] at h
  apply h
  rw [gt_eq]
  simp [show i.toNat < l.length by omega]
theorem okD_p {v : DV} (h : okD v = true) : fits [.int .i64 0, .str [], .int .i64 0, .int .i64 0] v.cells = true ∧ -9223372036854775808 ≤ cI v 2 ∧ cI v 2 ≤ 9223372036854775807 := by
  simp only [okD, Bool.and_eq_true, decide_eq_true_eq] at h
  exact ⟨h.1.1, h.1.2, h.2⟩
theorem quote_len (s : List UInt8) (h : rightR 2 0 s = true) : (quoteR s).length ≤ 162 := by
  simp only [rightR, Bool.or_eq_true, Bool.and_eq_true, decide_eq_true_eq] at h
  rcases h with h | h
  · exact absurd h.1 (by decide)
  · rw [← quote_eq s (by unfold big; omega) h.2]
    have := flatB_len s
    unfold quoteB
    simp only [List.cons_append, List.length_cons, List.length_append, List.length_nil]
    omega
theorem markB_len (s : List UInt8) (h : markB s = true) : s.length ≤ 200 := by
  unfold markB at h
  simp only [Bool.or_eq_true, decide_eq_true_eq] at h
  rcases h with ((((((((h | h) | h) | h) | h) | h) | h) | h) | h) | h <;> subst h <;> simp
theorem txD_len (v : DV) (h : okD v = true) : (txD v).length ≤ 200 := by
  obtain ⟨_, h1, h2⟩ := okD_p h
  unfold txD
  cases hr : tokRight (cI v 0) (cI v 2) (cI v 3) (cS v 1) with
  | false => rw [tokText_f hr]; simp
  | true =>
    rw [tokText_t hr]
    have e1 := itoa_len20 (cI v 2) (by omega)
    obtain ⟨_, (⟨k, _, h3, _⟩ | ⟨k, _⟩ | ⟨k, _, h3⟩ | ⟨k, _⟩ | ⟨k, _, h3⟩)⟩ := tokRight_k hr <;> simp only [k]
    · simp; omega
    · simp; omega
    · have := quote_len _ h3; simp; omega
    · simp; omega
    · have := markB_len _ h3; simp; omega
theorem teD (v : DV) : tokE (cI v 0) (cI v 2) (cI v 3) (cS v 1) = if goodD v = true then 0 else 2 := rfl
theorem loop31 (F : Nat) {R : Type} (xs : List DV) (K : Ex → St → Option R) (hs : xs.length ≤ 1000000) (ho : xs.all okD = true) :
    ∀ (m : Nat) (i : Int), 0 ≤ i → i ≤ xs.length → (xs.length - i).toNat < m →
      loopK (pcodeK (ctx F []) noL (lp Tryd.f31 0)) 0 (allBut 20 [0, 3] ++ temps (lp Tryd.f31 0)) (allBut 20 [0, 2]) m
        ⟨slots 20 [(0, .d (.slc 4 xs)), (3, .d (.int .i64 i))], []⟩ K =
      PS.cnd (fewL (xs.drop i.toNat)) (K (.exit 0) ⟨slots 20 [(0, .d (.slc 4 xs))], []⟩) (K .ret ⟨slots 20 [(0, .d (.slc 4 xs)), (2, .d (.bool false))], []⟩) := by
  intro m
  induction m with
  | zero => intro i _ _ hm; omega
  | succ m ih =>
    intro i h0 h1 hm
    rw [loopK_succ, round31_0]
    by_cases hk : i < xs.length
    · have w : IntKind.i64.wrap (i + 1) = i + 1 := wrap64 (by omega) (by omega)
      have ih1 := ih (i + 1) (by omega) (by omega) (by omega)
      have hf := (okD_p (all_gt ho h0 hk)).1
      rw [drop_gt h0 hk]
      simp only [Tr.run, rnd, w, ih1, atS_c, hf]
      rw [cnd_p hk, chk_p h0, chk_p (by omega), chk_tt]
      simp only [fewL, List.all_cons, cnd_if, Bool.and_eq_true, decide_eq_true_eq]
      grind
    · have e : xs.drop i.toNat = [] := List.drop_eq_nil_of_le (by omega)
      rw [e]
      simp only [Tr.run, rnd]
      rw [cnd_n hk]
      rfl
theorem lps31 (F : Nat) (hF : F = FU) : LpsOk (ctx F []) L31 (loopsOf (body Tryd.f31)) := by
  refine lps_one (c := lp Tryd.f31 0) rfl (by kernel_rfl) fun R st K r h => ?_
  unfold T31 at h
  cases hs : shape 20 [0, 3] st.slots with
  | false => rw [hs] at h; simp [Tr.run] at h
  | true =>
  rw [hs] at h
  simp only [cond_true] at h
  have he := shape_eq hs
  obtain ⟨sl0, H⟩ := st
  dsimp only at h he ⊢
  split at h
  · rename_i xs i g0 g1
    simp only [List.map_cons, List.map_nil, g0, g1] at he
    subst he
    simp only [Tr.run] at h
    cases hc : (decide (0 ≤ i) && decide (i ≤ xs.length) && decide (xs.length ≤ big) && xs.all okD) with
    | false => rw [hc] at h; simp at h
    | true =>
    rw [hc] at h
    simp only [Bool.and_eq_true, decide_eq_true_eq] at hc
    obtain ⟨⟨⟨h0, h1⟩, h2⟩, h3⟩ := hc
    unfold big at h2
    refine (loop31 F xs K h2 h3 F i h0 h1 (by rw [hF]; unfold FU; omega)).trans ?_
    rw [← h]
    rfl
  · simp [Tr.run] at h
theorem ok31 (W0 : World) : EKOk Tryd.prog W0 31 (.pure S31) := by
  refine pure_of (tyOk FU []) (look_ok all_nil) mixed fn31 (lps31 FU rfl) fun args r h => ?_
  unfold S31 at h
  split at h
  · rename_i xs
    refine (run31 FU xs).trans ?_
    rw [← h]
    simp only [Tr.val_chk, chk_some] at h
    obtain ⟨h0, _⟩ := h
    simp only [Tr.val_ok, Tr.val_cnd, Tr.val_chk, h0]
    have e : List.drop (Int.toNat 0) xs = xs := rfl
    rw [e, chk_tt]
    unfold fewB
    by_cases hl : xs.length ≤ 1200
    · rw [cnd_n (by omega), chk_t (by simp only [Bool.and_eq_true, decide_eq_true_eq, and_true]; unfold big; omega)]
      simp only [hl, decide_true, Bool.true_and]
      cases fewL xs <;> rfl
    · rw [cnd_p (by omega)]
      simp only [hl, decide_false, Bool.false_and]
  · simp [Tr.val_no] at h
end Go.PS
end

section
namespace Go.PS
open Go.ChangeShapes Go.WideShapes
/-- fields one behind another -/
def laidF (P : Program) : Nat → List Field → Option Nat
  | n, [] => some n
  | n, f :: l => if f.offset = n then laidF P (n + P.cellsOf f.type) l else none
/-- a type of numbers, truths, texts, and structs and slices of these -/
def plainT (P : Program) (ts : List TypeId) (t : TypeId) : Bool :=
  match P.underlying t with
  | some .bool | some (.int _) | some .string => true
  | some (.slice e) => ts.contains e && decide (0 < P.cellsOf e)
  | some (.struct fs) => (laidF P 0 fs.toList == some (P.cellsOf t)) && fs.toList.all fun f => ts.contains f.type
  | _ => false
def isAgg : DV → Bool
  | .agg _ => true
  | _ => false
def isStruct (P : Program) (t : TypeId) : Bool := match P.underlying t with | some (.struct _) => true | _ => false
/-- data of a type, to a depth -/
def tyV (P : Program) : Nat → TypeId → List DV → Prop
  | 0, _, _ => False
  | n + 1, t, ds => match P.underlying t with
    | some .bool => ∃ b, ds = [.bool b]
    | some (.int k) => ∃ m, ds = [.int k m] ∧ (Lit.int k m).wf = true
    | some .string => ∃ s, ds = [.str s] ∧ s.length ≤ maxLen
    | some (.slice e) => ∃ vs, ds = [.slc (P.cellsOf e) vs] ∧ vs.length ≤ maxLen ∧ ∀ v ∈ vs, isAgg v = isStruct P e ∧ tyV P n e v.cells
    | some (.struct fs) => ds.length = P.cellsOf t ∧ ∀ f ∈ fs.toList, tyV P n f.type ((ds.drop f.offset).take (P.cellsOf f.type))
    | _ => False
section
variable {H : Type} {enc : TypeId × Value → H} {P : Program} {w : World} {base : Nat} {held : Bool}
def bareO : Own := fun _ => none
theorem sc_cells {o : Own} {w : World} {d : DV} {c : Value} (hs : d.scalar = true) (h : Enc o w d c) : c.cells = #[c] := by
  cases h <;> first | rfl | (simp [DV.scalar] at hs)
theorem append_encL {o : Own} {w : World} {vs xs us ys} (h : EncL o w vs xs) (h2 : EncL o w us ys) : EncL o w (vs ++ us) (xs ++ ys) := by
  match h with
  | .nil => exact h2
  | .cons hh t => exact .cons hh (append_encL t h2)
theorem open_fields (W : World) (n : Nat) {ts : List TypeId}
    (ih : ∀ (t : TypeId) (cs : List Value) (x : DataW H × List MemPlace), ts.contains t = true → DataW.trod enc P W base (fun _ => true) held n t cs = some x → ∃ ds, EncL bareO W ds cs ∧ (∀ d ∈ ds, d.scalar = true) ∧ tyV P n t ds)
    {cs : List Value} : ∀ (fs : List Field) (m k : Nat), laidF P m fs = some k → (∀ f ∈ fs, ts.contains f.type = true) → k ≤ cs.length →
    (∀ f ∈ fs, ∃ x, DataW.trod enc P W base (fun _ => true) held n f.type ((cs.drop f.offset).take (P.cellsOf f.type)) = some x) →
    m ≤ k ∧ ∃ ds, EncL bareO W ds ((cs.drop m).take (k - m)) ∧ (∀ d ∈ ds, d.scalar = true) ∧ ∀ f ∈ fs, m ≤ f.offset ∧ tyV P n f.type ((ds.drop (f.offset - m)).take (P.cellsOf f.type))
  | [], m, k, hl, _, _, _ => by
    simp only [laidF, Option.some.injEq] at hl
    subst hl
    exact ⟨Nat.le_refl _, [], by rw [Nat.sub_self, List.take_zero]; exact .nil, (by intro d hd; cases hd), (by intro f hf; cases hf)⟩
  | f :: fs, m, k, hl, ht, hk, hx => by
    simp only [laidF] at hl
    split at hl
    · rename_i ho
      obtain ⟨hmk, ds2, he2, hs2, hf2⟩ := open_fields W n ih fs _ _ hl (fun g hg => ht g (List.mem_cons_of_mem _ hg)) hk (fun g hg => hx g (List.mem_cons_of_mem _ hg))
      obtain ⟨x, hx1⟩ := hx f List.mem_cons_self
      obtain ⟨ds1, he1, hs1, hf1⟩ := ih _ _ _ (ht f List.mem_cons_self) hx1
      have hlen1 := he1.length
      rw [List.length_take, List.length_drop, ho] at hlen1
      have hlen1' : ds1.length = P.cellsOf f.type := by omega
      refine ⟨by omega, ds1 ++ ds2, ?_, ?_, ?_⟩
      · have := append_encL he1 he2
        rw [ho] at this
        have e : (cs.drop m).take (k - m) = (cs.drop m).take (P.cellsOf f.type) ++ (cs.drop (m + P.cellsOf f.type)).take (k - (m + P.cellsOf f.type)) := by
          rw [← List.drop_drop, show k - m = P.cellsOf f.type + (k - (m + P.cellsOf f.type)) by omega, List.take_add]
        rw [e]; exact this
      · intro d hd
        rcases List.mem_append.1 hd with hd | hd
        · exact hs1 d hd
        · exact hs2 d hd
      · intro g hg
        rcases List.mem_cons.1 hg with rfl | hg
        · refine ⟨by omega, ?_⟩
          rw [ho, Nat.sub_self, List.drop_zero, ← hlen1', List.take_left]
          exact hf1
        · obtain ⟨h1, h2⟩ := hf2 g hg
          refine ⟨by omega, ?_⟩
          rw [show g.offset - m = ds1.length + (g.offset - (m + P.cellsOf f.type)) by omega, List.drop_append, List.drop_eq_nil_of_le (by omega), List.nil_append, Nat.add_sub_cancel_left]
          exact h2
    · cases hl
theorem cell_spot {w : World} {a : Addr} {v : Value} (h : w.cell? a = some v) : a.spot = none := by
  unfold World.cell? at h
  split at h
  · split at h
    · cases h
    · rename_i hs; simpa using hs
  · cases h
theorem add_add (b off k j : Nat) : ((⟨b, off, none⟩ : Addr).add k).add j = ⟨b, off + k + j, none⟩ := by
  unfold Addr.add
  by_cases hk : k = 0
  · subst hk; by_cases hj : j = 0
    · subst hj; simp
    · simp [hj]
  · by_cases hj : j = 0
    · subst hj; simp [hk]
    · simp [hk, hj]
/-- an element, from its cells -/
theorem open_elem (W : World) (n : Nat) {e : TypeId} {ds : List DV} {cs : List Value} (he : EncL bareO W ds cs) (hs : ∀ d ∈ ds, d.scalar = true) (ht : tyV P n e ds) :
    ∃ (v : DV) (x : Value), Enc bareO W v x ∧ x.cells.toList = cs ∧ isAgg v = isStruct P e ∧ tyV P n e v.cells ∧ x = (if isStruct P e = true then .agg cs.toArray else cs.headD undef) := by
  cases n with
  | zero => exact ht.elim
  | succ n =>
    by_cases hst : isStruct P e = true
    · exact ⟨.agg ds, .agg cs.toArray, .agg _ _ he hs, by simp [Value.cells], by rw [hst]; rfl, ht, by rw [if_pos hst]⟩
    · have one : ∃ d, ds = [d] ∧ d.scalar = true := by
        have ht' := ht
        unfold tyV at ht'
        unfold isStruct at hst
        split at ht'
        · obtain ⟨b, rfl⟩ := ht'; exact ⟨_, rfl, rfl⟩
        · obtain ⟨b, rfl, _⟩ := ht'; exact ⟨_, rfl, rfl⟩
        · obtain ⟨b, rfl, _⟩ := ht'; exact ⟨_, rfl, rfl⟩
        · obtain ⟨b, rfl, _⟩ := ht'; exact ⟨_, rfl, rfl⟩
        · rename_i hu; rw [hu] at hst; exact absurd rfl hst
        · exact ht'.elim
      obtain ⟨d, rfl, hd⟩ := one
      cases he with
      | cons h t =>
        cases t
        refine ⟨d, _, h, by rw [sc_cells hd h], ?_, ?_, by rw [if_neg hst]; rfl⟩
        · have : isStruct P e = false := by simpa using hst
          rw [this]; cases d <;> first | rfl | (simp [DV.scalar] at hd)
        · have : d.cells = [d] := by cases d <;> first | rfl | (simp [DV.scalar] at hd)
          rw [this]; exact ht
theorem open_row (W : World) (n : Nat) {e : TypeId} {a : Addr}
    (ih : ∀ (cs : List Value) (x : DataW H × List MemPlace), DataW.trod enc P W base (fun _ => true) held n e cs = some x → ∃ ds, EncL bareO W ds cs ∧ (∀ d ∈ ds, d.scalar = true) ∧ tyV P n e ds) :
    ∀ (m : Nat), (∀ i, i < m → ∃ y, (W.cells? base (a.add (i * P.cellsOf e)) (P.cellsOf e)).bind (DataW.trod enc P W base (fun _ => true) held n e) = some y) →
    ∃ (vs : List DV) (xs : List Value), vs.length = m ∧ EncL bareO W vs xs ∧ (∀ v ∈ vs, isAgg v = isStruct P e ∧ tyV P n e v.cells) ∧
      ∀ (i : Nat) x, xs[i]? = some x → x.cells.size = P.cellsOf e ∧ ∀ (j : Nat) y, x.cells[j]? = some y → W.cell? ((a.add (i * P.cellsOf e)).add j) = some y
  | 0, _ => ⟨[], [], rfl, .nil, by simp, by simp⟩
  | m + 1, h => by
    obtain ⟨vs, xs, h1, h2, h3, h4⟩ := open_row W n ih m (fun i hi => h i (by omega))
    obtain ⟨y, hy⟩ := h m (by omega)
    rw [Option.bind_eq_some_iff] at hy
    obtain ⟨cs, hcs, hy⟩ := hy
    obtain ⟨ds, e1, e2, e3⟩ := ih _ _ hy
    obtain ⟨v, x, f1, f2, f3, f4, _⟩ := open_elem W n e1 e2 e3
    obtain ⟨_, g2, g3⟩ := World.cells?_some hcs
    refine ⟨vs ++ [v], xs ++ [x], by simp [h1], append_encL h2 (.cons f1 .nil), ?_, ?_⟩
    · intro u hu
      rcases List.mem_append.1 hu with hu | hu
      · exact h3 u hu
      · simp at hu; subst hu; exact ⟨f3, f4⟩
    · intro i z hz
      have hxl : xs.length = m := by rw [← h2.length, h1]
      by_cases hi : i < m
      · rw [List.getElem?_append_left (by omega)] at hz
        exact h4 i z hz
      · have hil := (List.getElem?_eq_some_iff.1 hz).1
        simp at hil
        have : i = m := by omega
        subst this
        rw [List.getElem?_append_right (by omega), hxl, Nat.sub_self] at hz
        simp at hz; subst hz
        have hsz : x.cells.size = cs.length := by rw [← f2]; simp
        refine ⟨by omega, fun j y' hj => ?_⟩
        have hjl := (Array.getElem?_eq_some_iff.1 hj).1
        rw [g3 j (by omega), ← f2]
        simpa using hj
/-- what a plain type reads from memory is data -/
theorem open_plain (W : World) {ts : List TypeId} (hp : ∀ t, ts.contains t = true → plainT P ts t = true) : ∀ (n : Nat) (t : TypeId) (cs : List Value) (x : DataW H × List MemPlace), ts.contains t = true →
    DataW.trod enc P W base (fun _ => true) held n t cs = some x → ∃ ds, EncL bareO W ds cs ∧ (∀ d ∈ ds, d.scalar = true) ∧ tyV P n t ds := by
  intro n
  induction n with
  | zero => intro t cs x _ h; simp [DataW.trod] at h
  | succ n ih =>
    intro t cs x ht h
    have hpt := hp t ht
    unfold plainT at hpt
    split at hpt
    · rename_i hu
      obtain ⟨b, rfl, _⟩ := DataW.trod_bool hu h
      refine ⟨[.bool b], .cons (.bool b) .nil, by simp [DV.scalar], ?_⟩
      unfold tyV; rw [hu]; exact ⟨b, rfl⟩
    · rename_i k hu
      obtain ⟨m, rfl, _, hw⟩ := DataW.trod_int hu h
      refine ⟨[.int k m], .cons (.int k m) .nil, by simp [DV.scalar], ?_⟩
      unfold tyV; rw [hu]; exact ⟨m, rfl, hw⟩
    · rename_i hu
      obtain ⟨s, rfl, _, hw⟩ := DataW.trod_string hu h
      have e : (⟨s.data.toList.toArray⟩ : ByteArray) = s := by cases s; simp
      have hl : s.data.toList.length ≤ maxLen := by rw [Array.length_toList]; exact hw
      have h1 : Enc bareO W (.str s.data.toList) (.string ⟨s.data.toList.toArray⟩) := .str _ (by unfold maxLen at hl; omega)
      rw [e] at h1
      refine ⟨[.str s.data.toList], .cons h1 .nil, by simp [DV.scalar], ?_⟩
      unfold tyV; rw [hu]; exact ⟨_, rfl, hl⟩
    · rename_i e hu
      simp only [Bool.and_eq_true, decide_eq_true_eq] at hpt
      obtain ⟨hte, hpos⟩ := hpt
      rcases DataW.trod_slice hu h with ⟨rfl, _⟩ | ⟨a, len, cap, elems, rest, n', hn, rfl, _, hb, hl, hm, hlen, hel, hsp, _⟩
      · refine ⟨[.slc (P.cellsOf e) []], .cons (.slcNil _) .nil, by simp [DV.scalar], ?_⟩
        unfold tyV; rw [hu]; exact ⟨[], rfl, by simp, by simp⟩
      · have hn' : n' = n := by omega
        subst hn'
        obtain ⟨hrl, hr⟩ := hsp rfl
        have each : ∀ i, i < cap → ∃ y, (W.cells? base (a.add (i * P.cellsOf e)) (P.cellsOf e)).bind (DataW.trod enc P W base (fun _ => true) held n' e) = some y := by
          intro i hi
          by_cases hil : i < len
          · exact ⟨elems[i]'(by omega), by rw [hel i hil]; exact List.getElem?_eq_getElem _⟩
          · refine ⟨rest[i - len]'(by omega), ?_⟩
            have := hr (i - len) (by omega)
            rw [show len + (i - len) = i by omega] at this
            rw [this]; exact List.getElem?_eq_getElem _
        obtain ⟨vs, xs, h1, h2, h3, h4⟩ := open_row W n' (fun cs x hx => ih e cs x hte hx) len (fun i hi => each i (by omega))
        refine ⟨[.slc (P.cellsOf e) vs], ?_, by simp [DV.scalar], ?_⟩
        · refine .cons ?_ .nil
          by_cases hc : cap = 0
          · have : len = 0 := by omega
            subst this; subst hc
            have : vs = [] := List.eq_nil_of_length_eq_zero h1
            subst this
            exact .slcZ _ a
          · have hs : a.spot = none := by
              obtain ⟨y, hy⟩ := each 0 (by omega)
              rw [Option.bind_eq_some_iff] at hy
              obtain ⟨cs, hcs, _⟩ := hy
              obtain ⟨_, g2, g3⟩ := World.cells?_some hcs
              have := g3 0 hpos
              rw [List.getElem?_eq_getElem (by omega), Nat.zero_mul] at this
              have e0 : (a.add 0).add 0 = a := by simp [Addr.add]
              rw [e0] at this
              exact cell_spot this
            obtain ⟨b, off, sp⟩ := a
            dsimp only at hs
            subst hs
            subst h1
            refine .slc _ vs b off cap xs hl (by unfold maxLen at hm; omega) h2 fun i x hx => ?_
            obtain ⟨k1, k2⟩ := h4 i x hx
            refine ⟨k1, fun j y hy => ⟨?_, fun lo p h => by cases h⟩⟩
            have := k2 j y hy
            rw [add_add] at this
            exact this
        · unfold tyV; rw [hu]; exact ⟨vs, rfl, by omega, h3⟩
    · rename_i fs hu
      simp only [Bool.and_eq_true, beq_iff_eq, List.all_eq_true] at hpt
      obtain ⟨hlay, hall⟩ := hpt
      obtain ⟨ys, m, hm, _, hcl, hyl, hf⟩ := DataW.trod_struct hu h
      have hm' : m = n := by omega
      subst hm'
      obtain ⟨_, ds, d1, d2, d3⟩ := open_fields (cs := cs) W m (fun t cs x ht hx => ih t cs x ht hx) fs.toList 0 _ hlay hall (by omega) (fun f hfm => by
        obtain ⟨i, hi⟩ := List.getElem?_of_mem hfm
        have hi' : fs[i]? = some f := by simpa using hi
        have hlt : i < fs.size := (Array.getElem?_eq_some_iff.1 hi').1
        exact ⟨ys[i]'(by omega), by rw [hf i f hi']; exact List.getElem?_eq_getElem _⟩)
      rw [List.drop_zero, Nat.sub_zero, ← hcl, List.take_length] at d1
      refine ⟨ds, d1, d2, ?_⟩
      unfold tyV; rw [hu]
      refine ⟨by rw [d1.length, hcl], fun f hfm => ?_⟩
      exact (d3 f hfm).2
    · cases hpt
/-- an argument of a plain type, opened -/
theorem open_arg {W : World} {ts : List TypeId} {t : TypeId} {r : Reach} {b0 : Nat} {v : Value} {d : DataW H} {ps : List MemPlace} (hp : ∀ t, ts.contains t = true → plainT P ts t = true) (ht : ts.contains t = true)
    (hval : Value.okWide P W r b0 t v) (hd : DataW.Trod enc P W base (fun _ => true) held t v d ps) :
    ∃ (n : Nat) (u : DV), PEnc bareO W [] (.d u) v ∧ isAgg u = isStruct P t ∧ tyV P n t u.cells := by
  obtain ⟨n, hf⟩ := hd
  obtain ⟨ds, e1, e2, e3⟩ := open_plain W hp n t _ _ ht hf
  obtain ⟨u, x, f1, f2, f3, f4, f5⟩ := open_elem W n e1 e2 e3
  have hx : x = v := by
    rw [f5]
    have hpt := hp t ht
    unfold plainT at hpt
    unfold isStruct
    split at hpt
    · rename_i hu
      obtain ⟨b, rfl⟩ := okWide_bool hu hval
      rw [hu]; rfl
    · rename_i k hu
      obtain ⟨b, rfl⟩ := okWide_int hu hval
      rw [hu]; rfl
    · rename_i hu
      obtain ⟨b, rfl⟩ := okWide_string hu hval
      rw [hu]; rfl
    · rename_i e hu
      obtain ⟨a, l, c, rfl⟩ := okWide_slice hu hval
      rw [hu]; rfl
    · rename_i fs hu
      obtain ⟨cs, rfl, _⟩ := okWide_struct hu hval
      rw [hu]
      simp [Value.cells]
    · cases hpt
  subst hx
  exact ⟨n, u, .d f1, f3, f4⟩
end
end Go.PS
end

section
namespace Go.PS
open Go.Proofs
set_option linter.unusedSimpArgs false
theorem join_one (x : List UInt8) : Lib.join [x] [32] = x := by unfold Lib.join List.intercalate; simp
theorem join_cons (x y : List UInt8) (l : List (List UInt8)) : Lib.join (x :: y :: l) [32] = x ++ 32 :: Lib.join (y :: l) [32] := by
  unfold Lib.join List.intercalate; simp [List.intersperse]
theorem joinL_true : ∀ (l : List DV) (s : List UInt8), l.all goodD = true → joinL true s l = if l = [] then s else s ++ 32 :: Lib.join (l.map txD) [32]
  | [], s, _ => rfl
  | v :: l, s, h => by
    simp only [List.all_cons, Bool.and_eq_true] at h
    rw [joinL, if_pos h.1, if_pos rfl, joinL_true l _ h.2, if_neg (List.cons_ne_nil v l)]
    cases l with
    | nil => simp [join_one]
    | cons w l => simp [join_cons]
theorem joinL_X (l : List DV) (h : l.all goodD = true) : joinL false [] l = joinX l := by
  cases l with
  | nil => rfl
  | cons v l =>
    have h' := h
    simp only [List.all_cons, Bool.and_eq_true] at h
    rw [joinL, if_pos h.1, if_neg Bool.false_ne_true, joinL_true l _ h.2]
    unfold joinX
    cases l with
    | nil => simp [join_one]
    | cons w l => simp [join_cons]
theorem vsL_X : ∀ (l : List DV) (vs : List DV), l.all goodD = true → vsL vs l = vs ++ l.map fun v => DV.str (txD v)
  | [], vs, _ => by simp [vsL]
  | v :: l, vs, h => by
    simp only [List.all_cons, Bool.and_eq_true] at h
    rw [vsL, if_pos h.1, vsL_X l _ h.2]; simp
theorem strs_X (l : List DV) : strsOf (l.map fun v => DV.str (txD v)) = l.map txD := by
  induction l with
  | nil => rfl
  | cons v l ih => simp [strsOf, ih]
theorem allStr_X (l : List DV) : allStr (l.map fun v => DV.str (txD v)) = true := by
  induction l with
  | nil => rfl
  | cons v l ih => exact ih
theorem join_len (l : List DV) (h : l.all okD = true) : (joinX l).length ≤ 201 * l.length := by
  induction l with
  | nil => exact Nat.le_refl _
  | cons v l ih =>
    simp only [List.all_cons, Bool.and_eq_true] at h
    have e := txD_len v h.1
    have i := ih h.2
    unfold joinX at i ⊢
    cases l with
    | nil => simp only [List.map_cons, List.map_nil, join_one, List.length_cons, List.length_nil]; omega
    | cons w l => simp only [List.map_cons, join_cons, List.length_append, List.length_cons] at i ⊢; omega
theorem loop36 (F : Nat) {R : Type} (xs : List DV) (K : Ex → St → Option R) (hs : xs.length ≤ 1000000) (ho : xs.all okD = true) (hb : xs.all shortD = true) :
    ∀ (m : Nat) (i : Int) (s : List UInt8), 0 ≤ i → i ≤ xs.length → s.length ≤ 300 * i → (xs.length - i).toNat < m →
      loopK (pcodeK (ctx F [(32, .pure S30)]) noL (lp Tryd.f36 0)) 0 (allBut 36 [0, 4, 5] ++ temps (lp Tryd.f36 0)) (allBut 36 [2, 3, 4]) m
        ⟨slots 36 [(0, .d (.slc 4 xs)), (4, .d (.str s)), (5, .d (.int .i64 i))], []⟩ K =
      PS.cnd ((xs.drop i.toNat).all goodD)
        (K (.exit 0) ⟨slots 36 [(4, .d (.str (joinL (decide (0 < i)) s (xs.drop i.toNat))))], []⟩)
        (K .ret ⟨slots 36 [(2, .d (.str [])), (3, .d (.int .i64 2)), (4, .d (.str (joinL (decide (0 < i)) s (xs.drop i.toNat))))], []⟩) := by
  intro m
  induction m with
  | zero => intro i s _ _ _ hm; omega
  | succ m ih =>
    intro i s h0 h1 h2 hm
    rw [loopK_succ, round36_0]
    by_cases hk : i < xs.length
    · have w : IntKind.i64.wrap (i + 1) = i + 1 := wrap64 (by omega) (by omega)
      have og := all_gt ho h0 hk
      obtain ⟨hf, hn1, hn2⟩ := okD_p og
      have hsh := all_gt hb h0 hk
      unfold shortD at hsh
      have tl := txD_len _ og
      have i1 := ih (i + 1) (s ++ [32] ++ txD (gt .nili xs i.toNat)) (by omega) (by omega) (by simp only [List.length_append, List.length_cons, List.length_nil]; omega) (by omega)
      have i2 := ih (i + 1) (s ++ txD (gt .nili xs i.toNat)) (by omega) (by omega) (by simp only [List.length_append]; omega) (by omega)
      have d1 : decide (0 < i + 1) = true := by rw [decide_eq_true_eq]; omega
      rw [d1] at i1 i2
      clear ih
      rw [drop_gt h0 hk]
      simp only [Tr.run, rnd, w, atS_c, atI_c, hf, Nat.zero_add, Nat.reduceAdd, teD]
      rw [cnd_p hk, chk_p h0, chk_p (by omega), chk_tt, hsh, decide_eq_true hn1, decide_eq_true hn2]
      rw [show (true && true && true) = true from rfl, chk_tt]
      generalize gt .nili xs i.toNat = v at *
      rw [show tokText (cI v 0) (cI v 2) (cI v 3) (cS v 1) = txD v from rfl]
      rw [i1, i2]
      rw [chk_p (by simp only [List.length_cons, List.length_nil]; omega), chk_p (by simp only [List.length_append, List.length_cons, List.length_nil]; omega), chk_p (by omega)]
      simp only [List.all_cons, joinL]
      cases hg : goodD v with
      | false => rfl
      | true =>
        by_cases hi : i > 0
        · rw [cnd_f (by rfl), cnd_p hi]; simp only [show 0 < i from hi, decide_true, if_true, Bool.true_and]
        · rw [cnd_f (by rfl), cnd_n hi]; simp only [show ¬ 0 < i from hi, decide_false, if_true, Bool.true_and, Bool.false_eq_true, if_false]
    · have e : xs.drop i.toNat = [] := List.drop_eq_nil_of_le (by omega)
      rw [e]
      simp only [Tr.run, rnd]
      rw [cnd_n hk]
      rfl
theorem lps36 (F : Nat) (hF : F = FU) : LpsOk (ctx F [(32, .pure S30)]) L36 (loopsOf (body Tryd.f36)) := by
  refine lps_one (c := lp Tryd.f36 0) rfl (by kernel_rfl) fun R st K r h => ?_
  unfold T36 at h
  cases hs : shape 36 [0, 4, 5] st.slots with
  | false => rw [hs] at h; simp [Tr.run] at h
  | true =>
  rw [hs] at h
  simp only [cond_true] at h
  have he := shape_eq hs
  obtain ⟨sl0, H⟩ := st
  dsimp only at h he ⊢
  split at h
  · rename_i xs s i g0 g1 g2
    simp only [List.map_cons, List.map_nil, g0, g1, g2] at he
    subst he
    simp only [Tr.run] at h
    cases hc : (decide (0 ≤ i) && decide (i ≤ xs.length) && decide (xs.length ≤ big) && xs.all okD && xs.all shortD && decide (s.length ≤ 300 * i)) with
    | false => rw [hc] at h; simp at h
    | true =>
    rw [hc] at h
    simp only [Bool.and_eq_true, decide_eq_true_eq] at hc
    obtain ⟨⟨⟨⟨⟨h0, h1⟩, h2⟩, h3⟩, h4⟩, h5⟩ := hc
    unfold big at h2
    refine (loop36 F xs K h2 h3 h4 F i s h0 h1 h5 (by rw [hF]; unfold FU; omega)).trans ?_
    rw [← h]
    rfl
  · simp [Tr.run] at h
theorem ok36 (W0 : World) (hW : Laid W0) : EKOk Tryd.prog W0 36 (.pure S35) := by
  refine pure_of (tyOk FU [(32, .pure S30)]) (look_ok (all_cons (ok32 W0 hW) all_nil)) mixed fn36 (lps36 FU rfl) fun args r h => ?_
  unfold S35 at h
  split at h
  · rename_i xs
    refine (run36 FU xs).trans ?_
    rw [← h]
    simp only [Tr.val_chk, chk_some, Bool.and_eq_true, decide_eq_true_eq] at h
    obtain ⟨⟨⟨h0, h1⟩, h2⟩, _⟩ := h
    simp only [Tr.val_ok, Tr.val_cnd, Tr.val_chk, h0, h1, decide_eq_true h2]
    have e : List.drop (Int.toNat 0) xs = xs := rfl
    have e0 : decide (0 < 0) = false := rfl
    rw [e, chk_t (by simp), show (true && true && true) = true from rfl, chk_tt]
    rw [e0]
    unfold joinT joinE
    cases hg : xs.all goodD with
    | false => rfl
    | true =>
      rw [cnd_tt, joinL_X _ hg]
      by_cases hl : (joinX xs).length ≤ 2000
      · rw [cnd_n (by omega)]; simp only [hl, if_true, and_self, show ¬ 2000 < (joinX xs).length by omega, if_false]
      · rw [cnd_p (by omega)]; simp only [hl, if_true, and_false, show 2000 < (joinX xs).length by omega, if_false]
  · simp [Tr.val_no] at h
theorem loop35 (F : Nat) {R : Type} (xs : List DV) (l : Int) (hl : l = xs.length) (K : Ex → St → Option R) (hs : xs.length ≤ 1000000) (ho : xs.all okD = true) (hb : xs.all shortD = true) :
    ∀ (m : Nat) (i : Int) (vs : List DV), 0 ≤ i → i ≤ xs.length → vs.length ≤ i → (xs.length - i).toNat < m →
      loopK (pcodeK (ctx F [(30, .pure S30), (56, .pure S56)]) noL (lp Tryd.f35 0)) 0 (allBut 35 [4, 10, 11, 12] ++ temps (lp Tryd.f35 0)) (allBut 35 [2, 3, 4]) m
        ⟨slots 35 [(4, .own 1 vs), (10, .d (.slc 4 xs)), (11, .d (.int .i64 l)), (12, .d (.int .i64 i))], []⟩ K =
      PS.cnd ((xs.drop i.toNat).all goodD)
        (K (.exit 0) ⟨slots 35 [(4, .own 1 (vsL vs (xs.drop i.toNat)))], []⟩)
        (K .ret ⟨slots 35 [(2, .d (.str [])), (3, .d (.int .i64 2)), (4, .own 1 (vsL vs (xs.drop i.toNat)))], []⟩) := by
  intro m
  induction m with
  | zero => intro i s _ _ _ hm; omega
  | succ m ih =>
    intro i vs h0 h1 h2 hm
    rw [loopK_succ, round35_0]
    by_cases hk : i < xs.length
    · have w : IntKind.i64.wrap (i + 1) = i + 1 := wrap64 (by omega) (by omega)
      have og := all_gt ho h0 hk
      obtain ⟨hf, hn1, hn2⟩ := okD_p og
      have hsh := all_gt hb h0 hk
      unfold shortD at hsh
      have i1 := ih (i + 1) (vs ++ [DV.str (txD (gt .nili xs i.toNat))]) (by omega) (by omega) (by simp only [List.length_append, List.length_cons, List.length_nil]; omega) (by omega)
      clear ih
      rw [drop_gt h0 hk]
      simp only [Tr.run, rnd, w, atS_c, atI_c, hf, Nat.zero_add, Nat.reduceAdd, teD]
      have hlim : ∀ k : Nat, k = 1 → limit 16 (vs.length + k) = true := by rintro k rfl; unfold limit; rw [decide_eq_true_eq]; omega
      rw [cnd_p (by omega), chk_p h0, chk_p (by omega), chk_tt, hsh, decide_eq_true hn1, decide_eq_true hn2]
      rw [show (true && true && true) = true from rfl, chk_tt, chk_t (by exact hlim _ rfl)]
      generalize gt .nili xs i.toNat = v at *
      rw [show tokText (cI v 0) (cI v 2) (cI v 3) (cS v 1) = txD v from rfl]
      rw [i1]
      simp only [List.all_cons, vsL]
      cases hg : goodD v with
      | false => rfl
      | true => rw [cnd_f (by rfl)]; simp only [if_true, Bool.true_and]
    · have e : xs.drop i.toNat = [] := List.drop_eq_nil_of_le (by omega)
      rw [e]
      simp only [Tr.run, rnd]
      rw [cnd_n (by omega)]
      rfl
theorem lps35 (F : Nat) (hF : F = FU) : LpsOk (ctx F [(30, .pure S30), (56, .pure S56)]) L35 (loopsOf (body Tryd.f35)) := by
  refine lps_one (c := lp Tryd.f35 0) rfl (by kernel_rfl) fun R st K r h => ?_
  unfold T35 at h
  cases hs : shape 35 [4, 10, 11, 12] st.slots with
  | false => rw [hs] at h; simp [Tr.run] at h
  | true =>
  rw [hs] at h
  simp only [cond_true] at h
  have he := shape_eq hs
  obtain ⟨sl0, H⟩ := st
  dsimp only at h he ⊢
  split at h
  · rename_i vs xs l i g0 g1 g2 g3
    simp only [List.map_cons, List.map_nil, g0, g1, g2, g3] at he
    subst he
    simp only [Tr.run] at h
    cases hc : (decide (0 ≤ i) && decide (i ≤ xs.length) && decide (xs.length ≤ big) && xs.all okD && xs.all shortD && decide (vs.length ≤ i) && decide (l = xs.length)) with
    | false => rw [hc] at h; simp at h
    | true =>
    rw [hc] at h
    simp only [Bool.and_eq_true, decide_eq_true_eq] at hc
    obtain ⟨⟨⟨⟨⟨⟨h0, h1⟩, h2⟩, h3⟩, h4⟩, h5⟩, h6⟩ := hc
    unfold big at h2
    refine (loop35 F xs l h6 K h2 h3 h4 F i vs h0 h1 h5 (by rw [hF]; unfold FU; omega)).trans ?_
    rw [← h]
    rfl
  · simp [Tr.run] at h
theorem ok35 (W0 : World) (hW : Laid W0) : EKOk Tryd.prog W0 35 (.pure S35) := by
  refine pure_of (tyOk FU [(30, .pure S30), (56, .pure S56)]) (look_ok (all_cons (ok30 W0 hW) (all_cons ok56 all_nil))) mixed fn35 (lps35 FU rfl) fun args r h => ?_
  unfold S35 at h
  split at h
  · rename_i xs
    refine (run35 FU xs).trans ?_
    rw [← h]
    simp only [Tr.val_chk, chk_some, Bool.and_eq_true, decide_eq_true_eq] at h
    obtain ⟨⟨⟨h0, h1⟩, h2⟩, _⟩ := h
    simp only [Tr.val_ok, Tr.val_cnd, Tr.val_chk, h0, h1, decide_eq_true h2]
    have e : List.drop (Int.toNat 0) xs = xs := rfl
    rw [e, chk_t (by simp), show (true && true && true) = true from rfl, chk_tt]
    unfold joinT joinE
    cases hg : xs.all goodD with
    | false => rfl
    | true =>
      have jl := join_len xs h0
      unfold big at h2
      rw [cnd_tt, vsL_X _ _ hg, List.nil_append, allStr_X, strs_X]
      rw [show Lib.join (xs.map txD) [32] = joinX xs from rfl]
      rw [chk_t (by simp only [Bool.and_eq_true, decide_eq_true_eq, true_and, List.length_map]; omega)]
      by_cases hl : (joinX xs).length ≤ 2000
      · rw [cnd_n (by omega)]; simp only [hl, if_true, and_self, show ¬ 2000 < (joinX xs).length by omega, if_false]
      · rw [cnd_p (by omega)]; simp only [hl, if_true, and_false, show 2000 < (joinX xs).length by omega, if_false]
  · simp [Tr.val_no] at h
end Go.PS
end

section
namespace Go.PS
open Go.Proofs
def T10 (st : St) : Tr (Ex × St) :=
  bif shape 84 [0, 3] st.slots then
    match gt .undef st.slots 0, gt .undef st.slots 3, st.heap with
    | .d (.slc 4 xs), .d (.int .i64 i), [] =>
      .chk (decide (0 ≤ i) && decide (i ≤ xs.length) && decide (xs.length ≤ big) && xs.all okD && xs.all shortD)
        (.ok (.exit 0, ⟨slots 84 [(0, .d (.slc 4 xs))], []⟩))
    | _, _, _ => .no
  else .no
def L10 : Lps := fun i => bif Nat.beq i 4 then some (allBut 84 [0, 3], allBut 84 [0, 2], T10) else none
def S10 : List PV → Tr PV
  | [.d (.slc 4 xs)] => .chk (xs.all okD) (.ok (.d (.bool true)))
  | _ => .no
theorem few_short {l : List DV} (h : fewL l = true) : l.all shortD = true := by
  unfold fewL at h
  rw [List.all_eq_true] at h ⊢
  intro v hv
  have := h v hv
  unfold shortD big
  rw [decide_eq_true_eq] at this ⊢
  omega
end Go.PS
end

section
namespace Go.PS
open Go.Proofs
set_option maxRecDepth 100000
theorem round10_0 (F : Nat) {R : Type} (xs : List DV) (i : Int) (K : Ex → St → Option R) (G : St → Option R) : roundK (pcodeK (ctx F [(12, .pure S12), (30, .pure S30), (31, .pure S31), (32, .pure S30), (33, .pure S33), (34, .pure S33), (35, .pure S35), (36, .pure S35)]) noL (lp Tryd.f10 0)) 0 (allBut 84 [0, 3] ++ temps (lp Tryd.f10 0)) (allBut 84 [0, 2]) ⟨slots 84 [(0, .d (.slc 4 xs)), (3, .d (.int .i64 i))], []⟩ K G =
    Tr.run
      (.cnd (decide (i < (↑xs.length : Int)))
        (.cnd (decide (i < 40))
          (.chk (decide (0 ≤ i))
          (.chk (decide (i.toNat < xs.length))
          (.chk (fits
        [.int .i64 0, .str [], .int .i64 0, .int .i64 0]
        (gt DV.nili xs i.toNat).cells)
          (.chk (decide ((atS xs i.toNat (0 + 1)).length ≤ big) && decide (-9223372036854775808 ≤ atI xs i.toNat (0 + 1 + 1)) &&
        decide (atI xs i.toNat (0 + 1 + 1) ≤ 9223372036854775807))
          (.chk (decide (0 ≤ i))
          (.chk (decide (i.toNat < xs.length))
          (.chk (fits
        [.int .i64 0, .str [], .int .i64 0, .int .i64 0]
        (gt DV.nili xs i.toNat).cells)
          (.chk (decide ((atS xs i.toNat (0 + 1)).length ≤ big) && decide (-9223372036854775808 ≤ atI xs i.toNat (0 + 1 + 1)) &&
        decide (atI xs i.toNat (0 + 1 + 1) ≤ 9223372036854775807))
          (.cnd (!decide
          (tokText (atI xs i.toNat 0) (atI xs i.toNat (0 + 1 + 1)) (atI xs i.toNat (0 + 1 + 1 + 1)) (atS xs i.toNat (0 + 1)) =
            tokText (atI xs i.toNat 0) (atI xs i.toNat (0 + 1 + 1)) (atI xs i.toNat (0 + 1 + 1 + 1)) (atS xs i.toNat (0 + 1))))
            (.ok (.inl (Ex.ret, ⟨slots 84 [(0, PV.d (DV.slc 4 xs)), (2, PV.d (DV.bool false))], []⟩)))
            (.cnd (!decide
          (tokE (atI xs i.toNat 0) (atI xs i.toNat (0 + 1 + 1)) (atI xs i.toNat (0 + 1 + 1 + 1)) (atS xs i.toNat (0 + 1)) =
            tokE (atI xs i.toNat 0) (atI xs i.toNat (0 + 1 + 1)) (atI xs i.toNat (0 + 1 + 1 + 1)) (atS xs i.toNat (0 + 1))))
              (.ok (.inl (Ex.ret, ⟨slots 84 [(0, PV.d (DV.slc 4 xs)), (2, PV.d (DV.bool false))], []⟩)))
              (.chk (decide (0 ≤ i))
              (.chk (decide (i.toNat < xs.length))
              (.chk (fits
        [.int .i64 0, .str [], .int .i64 0, .int .i64 0]
        (gt DV.nili xs i.toNat).cells)
              (.chk (decide ((atS xs i.toNat (0 + 1)).length ≤ big))
              (.chk (decide (0 ≤ i))
              (.chk (decide (i.toNat < xs.length))
              (.chk (fits
        [.int .i64 0, .str [], .int .i64 0, .int .i64 0]
        (gt DV.nili xs i.toNat).cells)
              (.chk (decide ((atS xs i.toNat (0 + 1)).length ≤ big))
              (.cnd (!decide
          (tokE (atI xs i.toNat 0) (atI xs i.toNat (0 + 1 + 1)) (atI xs i.toNat (0 + 1 + 1 + 1)) (atS xs i.toNat (0 + 1)) =
            tokE (atI xs i.toNat 0) (atI xs i.toNat (0 + 1 + 1)) (atI xs i.toNat (0 + 1 + 1 + 1)) (atS xs i.toNat (0 + 1))))
                (.ok (.inl (Ex.ret, ⟨slots 84 [(0, PV.d (DV.slc 4 xs)), (2, PV.d (DV.bool false))], []⟩)))
                (.ok (.inr ⟨slots 84 [(0, PV.d (DV.slc 4 xs)), (3, PV.d (DV.int IntKind.i64 (IntKind.i64.wrap (i + 1))))], []⟩)))))))))))))))))))))
          (.ok (.inl (Ex.exit 0, ⟨slots 84 [(0, PV.d (DV.slc 4 xs))], []⟩))))
        (.ok (.inl (Ex.exit 0, ⟨slots 84 [(0, PV.d (DV.slc 4 xs))], []⟩)))) (rnd K G) := by kernel_rfl
/-! fasti fastilaw16.TokenWrites -/
theorem fn10 : FnOk Tryd.prog 10 84 [.tmp 2] (body Tryd.f10) := ⟨Tryd.f10, Tryd.func10, bodySome _ (by kernel_rfl), by kernel_rfl, by kernel_rfl, by kernel_rfl, by kernel_rfl⟩
theorem run10 (F : Nat) (xs : List DV) : runP (ctx F [(12, .pure S12), (30, .pure S30), (31, .pure S31), (32, .pure S30), (33, .pure S33), (34, .pure S33), (35, .pure S35), (36, .pure S35)]) L10 84 [.tmp 2] (body Tryd.f10) [.d (.slc 4 xs)] =
    Tr.val
      (.chk (xs.all okD)
      (.cnd (!fewB xs)
        (.ok (PV.d (DV.bool true)))
        (.chk (decide (0 ≤ 0) && decide (0 ≤ (↑xs.length : Int)) && decide (xs.length ≤ big) && xs.all okD && xs.all shortD)
        (.chk (xs.all okD && xs.all shortD && decide (xs.length ≤ big))
        (.chk (xs.all okD && xs.all shortD && decide (xs.length ≤ big))
        (.cnd (decide (joinT xs = joinT xs))
          (.cnd (decide (joinE xs = joinE xs))
            (.ok (PV.d (DV.bool true)))
            (.ok (PV.d (DV.bool false))))
          (.ok (PV.d (DV.bool false))))))))) := by kernel_rfl
end Go.PS
end

section
namespace Go.PS
open Go.Proofs
set_option linter.unusedSimpArgs false
theorem loop10 (F : Nat) {R : Type} (xs : List DV) (K : Ex → St → Option R) (hs : xs.length ≤ 1000000) (ho : xs.all okD = true) (hb : xs.all shortD = true) :
    ∀ (m : Nat) (i : Int), 0 ≤ i → i ≤ xs.length → (xs.length - i).toNat < m →
      loopK (pcodeK (ctx F [(12, .pure S12), (30, .pure S30), (31, .pure S31), (32, .pure S30), (33, .pure S33), (34, .pure S33), (35, .pure S35), (36, .pure S35)]) noL (lp Tryd.f10 0)) 0 (allBut 84 [0, 3] ++ temps (lp Tryd.f10 0)) (allBut 84 [0, 2]) m
        ⟨slots 84 [(0, .d (.slc 4 xs)), (3, .d (.int .i64 i))], []⟩ K =
      K (.exit 0) ⟨slots 84 [(0, .d (.slc 4 xs))], []⟩ := by
  intro m
  induction m with
  | zero => intro i _ _ hm; omega
  | succ m ih =>
    intro i h0 h1 hm
    rw [loopK_succ, round10_0]
    by_cases hk : i < xs.length
    · have w : IntKind.i64.wrap (i + 1) = i + 1 := wrap64 (by omega) (by omega)
      have og := all_gt ho h0 hk
      obtain ⟨hf, hn1, hn2⟩ := okD_p og
      have hsh := all_gt hb h0 hk
      unfold shortD at hsh
      have i1 := ih (i + 1) (by omega) (by omega) (by omega)
      clear ih
      simp only [Tr.run, rnd, w, atS_c, atI_c, hf, Nat.zero_add, Nat.reduceAdd, hsh, decide_eq_true hn1, decide_eq_true hn2, i1, decide_true, Bool.not_true, Bool.and_true, chk_tt, decide_eq_true hk, decide_eq_true h0, decide_eq_true (show i.toNat < xs.length by omega), cnd_tt]
      rw [cnd_f rfl, cnd_f rfl, cnd_f rfl]
      cases decide (i < 40) <;> rfl
    · simp only [Tr.run, rnd]
      rw [cnd_n hk]
theorem lps10 (F : Nat) (hF : F = FU) : LpsOk (ctx F [(12, .pure S12), (30, .pure S30), (31, .pure S31), (32, .pure S30), (33, .pure S33), (34, .pure S33), (35, .pure S35), (36, .pure S35)]) L10 (loopsOf (body Tryd.f10)) := by
  refine lps_one (c := lp Tryd.f10 0) rfl (by kernel_rfl) fun R st K r h => ?_
  unfold T10 at h
  cases hs : shape 84 [0, 3] st.slots with
  | false => rw [hs] at h; simp [Tr.run] at h
  | true =>
  rw [hs] at h
  simp only [cond_true] at h
  have he := shape_eq hs
  obtain ⟨sl0, H⟩ := st
  dsimp only at h he ⊢
  split at h
  · rename_i xs i g0 g1
    simp only [List.map_cons, List.map_nil, g0, g1] at he
    subst he
    simp only [Tr.run] at h
    cases hc : (decide (0 ≤ i) && decide (i ≤ xs.length) && decide (xs.length ≤ big) && xs.all okD && xs.all shortD) with
    | false => rw [hc] at h; simp at h
    | true =>
    rw [hc] at h
    simp only [Bool.and_eq_true, decide_eq_true_eq] at hc
    obtain ⟨⟨⟨⟨h0, h1⟩, h2⟩, h3⟩, h4⟩ := hc
    unfold big at h2
    refine (loop10 F xs K h2 h3 h4 F i h0 h1 (by rw [hF]; unfold FU; omega)).trans ?_
    rw [← h]
    rfl
  · simp [Tr.run] at h
theorem ok10 (W0 : World) (hW : Laid W0) : EKOk Tryd.prog W0 10 (.pure S10) := by
  refine pure_of (tyOk FU [(12, .pure S12), (30, .pure S30), (31, .pure S31), (32, .pure S30), (33, .pure S33), (34, .pure S33), (35, .pure S35), (36, .pure S35)]) (look_ok (all_cons (ok12 W0 hW) (all_cons (ok30 W0 hW) (all_cons (ok31 W0) (all_cons (ok32 W0 hW) (all_cons (ok33 W0 hW) (all_cons (ok34 W0) (all_cons (ok35 W0 hW) (all_cons (ok36 W0 hW) all_nil))))))))) mixed fn10 (lps10 FU rfl) fun args r h => ?_
  unfold S10 at h
  split at h
  · rename_i xs
    refine (run10 FU xs).trans ?_
    rw [← h]
    simp only [Tr.val_chk, chk_some] at h
    obtain ⟨h0, _⟩ := h
    simp only [Tr.val_ok, Tr.val_cnd, Tr.val_chk, h0, chk_tt, Bool.true_and]
    cases hf : fewB xs with
    | false => rfl
    | true =>
      unfold fewB at hf
      simp only [Bool.and_eq_true, decide_eq_true_eq] at hf
      have hsh := few_short hf.2
      have hb : decide (xs.length ≤ big) = true := by rw [decide_eq_true_eq]; unfold big; omega
      have e0 : decide ((0 : Int) ≤ (xs.length : Int)) = true := by rw [decide_eq_true_eq]; omega
      rw [hsh, hb, e0]
      rfl
  · simp [Tr.val_no] at h
end Go.PS
end
