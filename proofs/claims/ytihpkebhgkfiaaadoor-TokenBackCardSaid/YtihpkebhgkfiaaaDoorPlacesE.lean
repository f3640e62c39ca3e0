/- A part of the proof of the claim (the pure semantics PS and the contracts of the functions over it). -/
import Derived.Test.YtihpkebhgkfiaaaDoorPlacesD
set_option linter.all false
section
namespace Go.PS
open Go.Proofs
set_option linter.unusedSimpArgs false
theorem smallB_fold (c : Int) : (decide (97 ≤ c) && decide (c ≤ 122)) = smallB c := rfl
theorem loop92 (F : Nat) {R : Type} (s : List UInt8) (l : Int) (K : Ex → St → Option R) (hs : s.length ≤ 1000000) (hl : l = s.length) :
    ∀ (m : Nat) (i : Int), 0 ≤ i → i ≤ s.length → (s.length - i).toNat < m →
      loopK (pcodeK (ctx F [(95, .pure S95)]) noL (lp Tryd.f92 0)) 0 (allBut 31 [0, 7, 8] ++ temps (lp Tryd.f92 0)) (allBut 31 [0, 2]) m
        ⟨slots 31 [(0, .d (.str s)), (7, .d (.int .i64 l)), (8, .d (.int .i64 i))], []⟩ K =
      PS.cnd (wordTo s m i) (K (.exit 0) ⟨slots 31 [(0, .d (.str s))], []⟩) (K .ret ⟨slots 31 [(0, .d (.str s)), (2, .d (.bool false))], []⟩) := by
  intro m
  induction m with
  | zero => intro i _ _ hm; omega
  | succ m ih =>
    intro i h0 h1 hm
    rw [loopK_succ, round92_0]
    have w : i < s.length → IntKind.i64.wrap (i + 1) = i + 1 := fun _ => wrap64 (by omega) (by omega)
    have ih1 := ih (i + 1)
    clear ih
    simp only [cnd_if] at ih1
    simp only [Tr.run, rnd, chr_fold, smallB_fold, wordTo, cnd_if, chk_if, Bool.and_eq_true, decide_eq_true_eq]
    grind
theorem lps92 (F : Nat) (hF : F = FU) : LpsOk (ctx F [(95, .pure S95)]) L92 (loopsOf (body Tryd.f92)) := by
  refine lps_one (c := lp Tryd.f92 0) rfl (by kernel_rfl) fun R st K r h => ?_
  unfold T92 at h
  cases hs : shape 31 [0, 7, 8] st.slots with
  | false => rw [hs] at h; simp [Tr.run] at h
  | true =>
  rw [hs] at h
  simp only [cond_true] at h
  have he := shape_eq hs
  obtain ⟨sl0, H⟩ := st
  dsimp only at h he ⊢
  split at h
  · rename_i s l i g0 g1 g2
    simp only [List.map_cons, List.map_nil, g0, g1, g2] at he
    subst he
    simp only [Tr.run] at h
    cases hc : (decide (0 ≤ i) && decide (i ≤ s.length) && decide (s.length ≤ big) && decide (l = s.length)) with
    | false => rw [hc] at h; simp at h
    | true =>
    rw [hc] at h
    simp only [Bool.and_eq_true, decide_eq_true_eq] at hc
    obtain ⟨⟨⟨h0, h1⟩, h2⟩, h3⟩ := hc
    unfold big at h2
    refine (loop92 F s l K h2 h3 F i h0 h1 (by rw [hF]; unfold FU; omega)).trans ?_
    rw [← h, hF]
    rfl
  · simp [Tr.run] at h
theorem loop91 (F : Nat) {R : Type} (s : List UInt8) (K : Ex → St → Option R) (hs : s.length ≤ 1000000) :
    ∀ (m : Nat) (i : Int), 0 ≤ i → i ≤ s.length → (s.length - i).toNat < m →
      loopK (pcodeK (ctx F [(69, .pure S69), (71, .pure S71)]) noL (lp Tryd.f91 0)) 0 (allBut 28 [0, 3] ++ temps (lp Tryd.f91 0)) (allBut 28 [0, 2]) m
        ⟨slots 28 [(0, .d (.str s)), (3, .d (.int .i64 i))], []⟩ K =
      PS.cnd (wordTo s m i) (K (.exit 0) ⟨slots 28 [(0, .d (.str s))], []⟩) (K .ret ⟨slots 28 [(0, .d (.str s)), (2, .d (.bool false))], []⟩) := by
  intro m
  induction m with
  | zero => intro i _ _ hm; omega
  | succ m ih =>
    intro i h0 h1 hm
    rw [loopK_succ, round91_0]
    have w : i < s.length → IntKind.i64.wrap (i + 1) = i + 1 := fun _ => wrap64 (by omega) (by omega)
    have ih1 := ih (i + 1)
    clear ih
    simp only [cnd_if] at ih1
    simp only [Tr.run, rnd, chr_fold, wordTo, cnd_if, chk_if, Bool.and_eq_true, decide_eq_true_eq]
    grind
theorem lps91 (F : Nat) (hF : F = FU) : LpsOk (ctx F [(69, .pure S69), (71, .pure S71)]) L91 (loopsOf (body Tryd.f91)) := by
  refine lps_one (c := lp Tryd.f91 0) rfl (by kernel_rfl) fun R st K r h => ?_
  unfold T91 at h
  cases hs : shape 28 [0, 3] st.slots with
  | false => rw [hs] at h; simp [Tr.run] at h
  | true =>
  rw [hs] at h
  simp only [cond_true] at h
  have he := shape_eq hs
  obtain ⟨sl0, H⟩ := st
  dsimp only at h he ⊢
  split at h
  · rename_i s i g0 g1
    simp only [List.map_cons, List.map_nil, g0, g1] at he
    subst he
    simp only [Tr.run] at h
    cases hc : (decide (0 ≤ i) && decide (i ≤ s.length) && decide (s.length ≤ big)) with
    | false => rw [hc] at h; simp at h
    | true =>
    rw [hc] at h
    simp only [Bool.and_eq_true, decide_eq_true_eq] at hc
    obtain ⟨⟨h0, h1⟩, h2⟩ := hc
    unfold big at h2
    refine (loop91 F s K h2 F i h0 h1 (by rw [hF]; unfold FU; omega)).trans ?_
    rw [← h, hF]
    rfl
  · simp [Tr.run] at h
theorem ok92 (W0 : World) : EKOk Tryd.prog W0 92 (.pure S92) := by
  refine pure_of (tyOk FU [(95, .pure S95)]) (look_ok (all_cons (ok95 W0) all_nil)) mixed fn92 (lps92 FU rfl) fun args r h => ?_
  unfold S92 at h
  split at h
  · rename_i s
    refine (run92 FU s).trans ?_
    rw [← h]
    simp only [Tr.val_chk, chk_some, decide_eq_true_eq] at h
    have h0 := h.1
    simp only [Tr.val_ok, Tr.val_cnd, Tr.val_chk, cnd_i, chk_i, wordB, Bool.and_eq_true, decide_eq_true_eq]
    grind
  · simp [Tr.val_no] at h
theorem ok91 (W0 : World) : EKOk Tryd.prog W0 91 (.pure S92) := by
  refine pure_of (tyOk FU [(69, .pure S69), (71, .pure S71)]) (look_ok (all_cons (ok69 W0) (all_cons (ok71 W0) all_nil))) mixed fn91 (lps91 FU rfl) fun args r h => ?_
  unfold S92 at h
  split at h
  · rename_i s
    refine (run91 FU s).trans ?_
    rw [← h]
    simp only [Tr.val_chk, chk_some, decide_eq_true_eq] at h
    have h0 := h.1
    simp only [Tr.val_ok, Tr.val_cnd, Tr.val_chk, cnd_i, chk_i, wordB, Bool.and_eq_true, decide_eq_true_eq]
    grind
  · simp [Tr.val_no] at h
theorem rightE_iff (s : List UInt8) : decide (rightE 2 0 s = 0) = rightR 2 0 s := by
  unfold rightE; cases rightR 2 0 s <;> rfl
theorem ok63 (W0 : World) (hW : Laid W0) : EKOk Tryd.prog W0 63 (.pure S63) := by
  refine pure_of (tyOk FU [(21, .pure S21u), (92, .pure S92), (93, .pure S93)]) (look_ok (all_cons (ok21u W0 hW) (all_cons (ok92 W0) (all_cons (ok93 W0) all_nil)))) mixed fn63 (lpsOk_no _ _) fun args r h => ?_
  unfold S63 at h
  split at h
  · rename_i k s n a
    refine (run63 FU k n a s).trans ?_
    rw [← h]
    simp only [Tr.val_chk, chk_some, decide_eq_true_eq] at h
    have h0 := h.1
    simp only [Tr.val_ok, Tr.val_cnd, Tr.val_chk, cnd_i, chk_i, rightT, rightE_iff, decide_eq_true_eq, h0, if_true]
    by_cases k1 : k = 1
    · subst k1; grind
    by_cases k2 : k = 2
    · subst k2; grind
    by_cases k3 : k = 3
    · subst k3; grind
    by_cases k4 : k = 4
    · subst k4; grind
    grind
  · simp [Tr.val_no] at h
theorem ok62 (W0 : World) : EKOk Tryd.prog W0 62 (.pure S62) := by
  refine pure_of (tyOk FU [(50, .pure S50), (73, .pure S93), (91, .pure S92)]) (look_ok (all_cons (ok50 W0) (all_cons (ok73 W0) (all_cons (ok91 W0) all_nil)))) mixed fn62 (lpsOk_no _ _) fun args r h => ?_
  unfold S62 at h
  split at h
  · rename_i k s n a
    refine (run62 FU k n a s).trans ?_
    rw [← h]
    simp only [Tr.val_chk, chk_some, decide_eq_true_eq] at h
    have h0 := h.1
    have ha : (decide (0 ≤ a)) = !(decide (a < 0)) := by by_cases q : a < 0 <;> simp [q] <;> omega
    simp only [Tr.val_ok, Tr.val_cnd, Tr.val_chk, cnd_i, chk_i, tokRight, rightT, decide_eq_true_eq, h0, if_true, ha]
    by_cases q : a < 0
    · simp [q]
    have hq : decide (a < 0) = false := decide_eq_false q
    have hn : decide (n ≥ 1) = decide (0 < n) := by simp only [decide_eq_decide]; omega
    simp only [hq, hn, Bool.not_false, Bool.true_and, q, if_false]
    by_cases k1 : k = 1
    · subst k1; simp only [if_true]; cases wordB s <;> by_cases qn : n = 0 <;> by_cases ql : (s.length : Int) ≤ 12 <;> simp [qn, ql]
    by_cases k2 : k = 2
    · subst k2; grind
    by_cases k3 : k = 3
    · subst k3; grind
    by_cases k4 : k = 4
    · subst k4; grind
    grind
  · simp [Tr.val_no] at h
theorem ok33 (W0 : World) (hW : Laid W0) : EKOk Tryd.prog W0 33 (.pure S33) := by
  refine pure_of (tyOk FU [(63, .pure S63)]) (look_ok (all_cons (ok63 W0 hW) all_nil)) mixed fn33 (lpsOk_no _ _) fun args r h => ?_
  unfold S33 at h
  split at h
  · rename_i k s n a
    refine (run33 FU k n a s).trans ?_
    rw [← h]
    simp only [Tr.val_chk, chk_some, decide_eq_true_eq] at h
    have h0 := h.1
    simp only [Tr.val_ok, Tr.val_cnd, Tr.val_chk, cnd_i, chk_i, tokE, tokRight, decide_eq_true_eq, h0, if_true]
    grind
  · simp [Tr.val_no] at h
theorem ok34 (W0 : World) : EKOk Tryd.prog W0 34 (.pure S33) := by
  refine pure_of (tyOk FU [(62, .pure S62)]) (look_ok (all_cons (ok62 W0) all_nil)) mixed fn34 (lpsOk_no _ _) fun args r h => ?_
  unfold S33 at h
  split at h
  · rename_i k s n a
    refine (run34 FU k n a s).trans ?_
    rw [← h]
    simp only [Tr.val_chk, chk_some, decide_eq_true_eq] at h
    have h0 := h.1
    simp only [Tr.val_ok, Tr.val_cnd, Tr.val_chk, cnd_i, chk_i, tokE, decide_eq_true_eq, h0, if_true]
    grind
  · simp [Tr.val_no] at h
end Go.PS
end

section
namespace Go.PS
open Go.Proofs
set_option linter.unusedSimpArgs false
theorem tokRight_k {k n a : Int} {s : List UInt8} (h : tokRight k n a s = true) :
    0 ≤ a ∧ ((k = 1 ∧ n = 0 ∧ (s.length : Int) ≤ 12 ∧ wordB s = true) ∨ (k = 2 ∧ s = []) ∨ (k = 3 ∧ n = 0 ∧ rightR 2 0 s = true) ∨ (k = 4 ∧ s = [] ∧ 0 < n) ∨ (k = 5 ∧ n = 0 ∧ markB s = true)) := by
  simp only [tokRight, rightT, Bool.and_eq_true, Bool.or_eq_true, decide_eq_true_eq] at h
  grind
theorem rightE_t {k n : Int} {s : List UInt8} (h : rightR k n s = true) : rightE k n s = 0 := by unfold rightE; rw [if_pos h]
theorem right1 (n : Int) : rightR 1 n [] = true := rfl
theorem textV_1 (n : Int) : textV 1 n [] = Lib.itoa n := rfl
theorem textV_2 {s : List UInt8} (h : rightR 2 0 s = true) : textV 2 0 s = quoteR s := by unfold textV; rw [if_pos h, if_neg (by decide)]
theorem tokE_t {k n a : Int} {s : List UInt8} (h : tokRight k n a s = true) : tokE k n a s = 0 := by unfold tokE; rw [if_pos h]
theorem tokE_f {k n a : Int} {s : List UInt8} (h : tokRight k n a s = false) : tokE k n a s = 2 := by unfold tokE; rw [h]; rfl
theorem tokText_f {k n a : Int} {s : List UInt8} (h : tokRight k n a s = false) : tokText k n a s = [] := by unfold tokText; rw [h]; rfl
theorem tokText_t {k n a : Int} {s : List UInt8} (h : tokRight k n a s = true) :
    tokText k n a s = if k = 3 then quoteR s else if k = 2 then Lib.itoa n else if k = 4 then 35 :: Lib.itoa n else s := by unfold tokText; rw [if_pos h]
theorem hash_len (n : Int) (h1 : -9223372036854775808 ≤ n) (h2 : n ≤ 9223372036854775807) : ([35] : List UInt8).length + (Lib.itoa n).length ≤ 9223372036854775807 := by
  have := itoa_len20 n (by omega)
  simp only [List.length_cons, List.length_nil]
  omega
theorem bigs (n : Int) (h1 : -9223372036854775808 ≤ n) (h2 : n ≤ 9223372036854775807) :
    (decide (([] : List DV).length ≤ big) && decide (-9223372036854775808 ≤ n) && decide (n ≤ 9223372036854775807)) = true := by
  simp only [h1, h2, decide_true, Bool.and_true, decide_eq_true_eq]; unfold big; exact Nat.zero_le _
theorem bigs2 (s : List UInt8) (h : s.length ≤ big) :
    (decide (s.length ≤ big) && decide (-9223372036854775808 ≤ 0) && decide (0 ≤ 9223372036854775807)) = true := by
  simp only [h, decide_true, Bool.true_and]; decide
theorem ok30 (W0 : World) (hW : Laid W0) : EKOk Tryd.prog W0 30 (.pure S30) := by
  refine pure_of (tyOk FU [(20, .pure S20u), (33, .pure S33)]) (look_ok (all_cons (ok20u W0 hW) (all_cons (ok33 W0 hW) all_nil))) mixed fn30 (lpsOk_no _ _) fun args r h => ?_
  unfold S30 at h
  split at h
  · rename_i k s n a
    refine (run30 FU k n a s).trans ?_
    rw [← h]
    simp only [Tr.val_chk, chk_some, Bool.and_eq_true, decide_eq_true_eq] at h
    obtain ⟨⟨h0, h1⟩, h2⟩ := h.1
    clear h
    simp only [Tr.val_ok, Tr.val_cnd, Tr.val_chk]
    rw [chk_t (b := decide (s.length ≤ big) && decide (-9223372036854775808 ≤ n) && decide (n ≤ 9223372036854775807)) (by simp [h0, h1, h2])]
    rw [chk_p h0]
    cases hr : tokRight k n a s with
    | false => rw [tokE_f hr, tokText_f hr]; rfl
    | true =>
      rw [tokE_t hr, tokText_t hr]
      rw [cnd_f (by rfl)]
      rw [chk_t (bigs n h1 h2), chk_t (bigs n h1 h2), chk_t (bigs2 s h0), right1 n |> rightE_t, textV_1, chk_p (hash_len n h1 h2)]
      obtain ⟨_, (⟨rfl, _, _, _⟩ | ⟨rfl, _⟩ | ⟨rfl, _, h3⟩ | ⟨rfl, _⟩ | ⟨rfl, _⟩)⟩ := tokRight_k hr
      · rw [cnd_n (by decide), cnd_n (by decide), cnd_n (by decide)]; rfl
      · rw [cnd_n (by decide), cnd_p rfl]; rfl
      · rw [cnd_p rfl, rightE_t h3, textV_2 h3]; rfl
      · rw [cnd_n (by decide), cnd_n (by decide), cnd_p rfl]; rfl
      · rw [cnd_n (by decide), cnd_n (by decide), cnd_n (by decide)]; rfl
  · simp [Tr.val_no] at h
theorem ok32 (W0 : World) (hW : Laid W0) : EKOk Tryd.prog W0 32 (.pure S30) := by
  refine pure_of (tyOk FU [(51, .pure (S51 19)), (52, .pure S52), (62, .pure S62)]) (look_ok (all_cons (ok51 W0 19) (all_cons (ok52 W0) (all_cons (ok62 W0) all_nil)))) mixed fn32 (lpsOk_no _ _) fun args r h => ?_
  unfold S30 at h
  split at h
  · rename_i k s n a
    refine (run32 FU k n a s).trans ?_
    rw [← h]
    simp only [Tr.val_chk, chk_some, Bool.and_eq_true, decide_eq_true_eq] at h
    obtain ⟨⟨h0, h1⟩, h2⟩ := h.1
    clear h
    have hd : dOk 19 n = true := by simp only [dOk, Bool.and_eq_true, decide_eq_true_eq]; omega
    simp only [Tr.val_ok, Tr.val_cnd, Tr.val_chk]
    rw [chk_t (b := decide (s.length ≤ big) && decide (-9223372036854775808 ≤ n) && decide (n ≤ 9223372036854775807)) (by simp [h0, h1, h2])]
    rw [chk_p h0]
    cases hr : tokRight k n a s with
    | false => rw [tokE_f hr, tokText_f hr]; rfl
    | true =>
      rw [tokE_t hr, tokText_t hr]
      rw [cnd_f (by rfl)]
      rw [chk_t hd, chk_t hd, chk_p (hash_len n h1 h2)]
      obtain ⟨_, (⟨rfl, _, _, _⟩ | ⟨rfl, _⟩ | ⟨rfl, _, h3⟩ | ⟨rfl, _⟩ | ⟨rfl, _⟩)⟩ := tokRight_k hr
      · rw [cnd_n (by decide), cnd_n (by decide), cnd_n (by decide)]; rfl
      · rw [cnd_p rfl]; rfl
      · have ho : okR s = true := by simp only [rightR, Bool.or_eq_true, Bool.and_eq_true, decide_eq_true_eq] at h3; rcases h3 with h3 | h3; exact absurd h3.1 (by decide); exact h3.2
        rw [cnd_n (by decide), cnd_p rfl, quote_eq s h0 ho, chk_p h0]; rfl
      · rw [cnd_n (by decide), cnd_n (by decide), cnd_p rfl]; rfl
      · rw [cnd_n (by decide), cnd_n (by decide), cnd_n (by decide)]; rfl
  · simp [Tr.val_no] at h
end Go.PS
end

section
namespace Go.PS
open Go.Proofs
def cI (v : DV) (j : Nat) : Int := match gt .nili v.cells j with | .int _ n => n | _ => 0
def cS (v : DV) (j : Nat) : List UInt8 := match gt .nili v.cells j with | .str s => s | _ => []
/-- an element is a token, its number one of 64 bits -/
def okD (v : DV) : Bool := fits [.int .i64 0, .str [], .int .i64 0, .int .i64 0] v.cells && decide (-9223372036854775808 ≤ cI v 2) && decide (cI v 2 ≤ 9223372036854775807)
def shortD (v : DV) : Bool := decide ((cS v 1).length ≤ big)
def goodD (v : DV) : Bool := tokRight (cI v 0) (cI v 2) (cI v 3) (cS v 1)
def txD (v : DV) : List UInt8 := tokText (cI v 0) (cI v 2) (cI v 3) (cS v 1)
/-- few tokens, short ones -/
def fewL (l : List DV) : Bool := l.all fun v => decide ((cS v 1).length ≤ 100)
def fewB (l : List DV) : Bool := decide (l.length ≤ 1200) && fewL l
def joinX (l : List DV) : List UInt8 := Lib.join (l.map txD) [32]
def joinE (l : List DV) : Int := if l.all goodD = true then (if 2000 < (joinX l).length then 5 else 0) else 2
def joinT (l : List DV) : List UInt8 := if l.all goodD = true ∧ (joinX l).length ≤ 2000 then joinX l else []
/-- the reference's way: the text grows -/
def joinL : Bool → List UInt8 → List DV → List UInt8
  | _, s, [] => s
  | b, s, v :: l => if goodD v = true then joinL true (if b = true then s ++ [32] ++ txD v else s ++ txD v) l else s
def vsL : List DV → List DV → List DV
  | vs, [] => vs
  | vs, v :: l => if goodD v = true then vsL (vs ++ [.str (txD v)]) l else vs
def S31 : List PV → Tr PV
  | [.d (.slc 4 xs)] => .chk (xs.all okD) (.ok (.d (.bool (fewB xs))))
  | _ => .no
def S35 : List PV → Tr PV
  | [.d (.slc 4 xs)] => .chk (xs.all okD && xs.all shortD && decide (xs.length ≤ big)) (.ok (.tup [.d (.str (joinT xs)), .d (.int .i64 (joinE xs))]))
  | _ => .no
def T31 (st : St) : Tr (Ex × St) :=
  bif shape 20 [0, 3] st.slots then
    match gt .undef st.slots 0, gt .undef st.slots 3, st.heap with
    | .d (.slc 4 xs), .d (.int .i64 i), [] =>
      .chk (decide (0 ≤ i) && decide (i ≤ xs.length) && decide (xs.length ≤ big) && xs.all okD)
       (.cnd (fewL (xs.drop i.toNat))
        (.ok (.exit 0, ⟨slots 20 [(0, .d (.slc 4 xs))], []⟩))
        (.ok (.ret, ⟨slots 20 [(0, .d (.slc 4 xs)), (2, .d (.bool false))], []⟩)))
    | _, _, _ => .no
  else .no
def L31 : Lps := fun i => bif Nat.beq i 4 then some (allBut 20 [0, 3], allBut 20 [0, 2], T31) else none
def T36 (st : St) : Tr (Ex × St) :=
  bif shape 36 [0, 4, 5] st.slots then
    match gt .undef st.slots 0, gt .undef st.slots 4, gt .undef st.slots 5, st.heap with
    | .d (.slc 4 xs), .d (.str s), .d (.int .i64 i), [] =>
      .chk (decide (0 ≤ i) && decide (i ≤ xs.length) && decide (xs.length ≤ big) && xs.all okD && xs.all shortD && decide (s.length ≤ 300 * i))
       (.cnd ((xs.drop i.toNat).all goodD)
        (.ok (.exit 0, ⟨slots 36 [(4, .d (.str (joinL (decide (0 < i)) s (xs.drop i.toNat))))], []⟩))
        (.ok (.ret, ⟨slots 36 [(2, .d (.str [])), (3, .d (.int .i64 2)), (4, .d (.str (joinL (decide (0 < i)) s (xs.drop i.toNat))))], []⟩)))
    | _, _, _, _ => .no
  else .no
def L36 : Lps := fun i => bif Nat.beq i 3 then some (allBut 36 [0, 4, 5], allBut 36 [2, 3, 4], T36) else none
def T35 (st : St) : Tr (Ex × St) :=
  bif shape 35 [4, 10, 11, 12] st.slots then
    match gt .undef st.slots 4, gt .undef st.slots 10, gt .undef st.slots 11, gt .undef st.slots 12, st.heap with
    | .own 1 vs, .d (.slc 4 xs), .d (.int .i64 l), .d (.int .i64 i), [] =>
      .chk (decide (0 ≤ i) && decide (i ≤ xs.length) && decide (xs.length ≤ big) && xs.all okD && xs.all shortD && decide (vs.length ≤ i) && decide (l = xs.length))
       (.cnd ((xs.drop i.toNat).all goodD)
        (.ok (.exit 0, ⟨slots 35 [(4, .own 1 (vsL vs (xs.drop i.toNat)))], []⟩))
        (.ok (.ret, ⟨slots 35 [(2, .d (.str [])), (3, .d (.int .i64 2)), (4, .own 1 (vsL vs (xs.drop i.toNat)))], []⟩)))
    | _, _, _, _, _ => .no
  else .no
def L35 : Lps := fun i => bif Nat.beq i 3 then some (allBut 35 [4, 10, 11, 12], allBut 35 [2, 3, 4], T35) else none
end Go.PS
end

section
namespace Go.PS
open Go.Proofs
set_option maxRecDepth 100000
theorem round31_0 (F : Nat) {R : Type} (xs : List DV) (i : Int) (K : Ex → St → Option R) (G : St → Option R) : roundK (pcodeK (ctx F []) noL (lp Tryd.f31 0)) 0 (allBut 20 [0, 3] ++ temps (lp Tryd.f31 0)) (allBut 20 [0, 2]) ⟨slots 20 [(0, .d (.slc 4 xs)), (3, .d (.int .i64 i))], []⟩ K G =
    Tr.run
      (.cnd (decide (i < (↑xs.length : Int)))
        (.chk (decide (0 ≤ i))
        (.chk (decide (i.toNat < xs.length))
        (.chk (fits [.int .i64 0, .str [], .int .i64 0, .int .i64 0] (gt DV.nili xs i.toNat).cells)
        (.cnd (decide ((↑(atS xs i.toNat (0 + 1)).length : Int) > 100))
          (.ok (.inl (Ex.ret, ⟨slots 20 [(0, PV.d (DV.slc 4 xs)), (2, PV.d (DV.bool false))], []⟩)))
          (.ok (.inr ⟨slots 20 [(0, PV.d (DV.slc 4 xs)), (3, PV.d (DV.int IntKind.i64 (IntKind.i64.wrap (i + 1))))], []⟩))))))
        (.ok (.inl (Ex.exit 0, ⟨slots 20 [(0, PV.d (DV.slc 4 xs))], []⟩)))) (rnd K G) := by kernel_rfl
/-! fasti fastilaw16.few -/
theorem fn31 : FnOk Tryd.prog 31 20 [.tmp 2] (body Tryd.f31) := ⟨Tryd.f31, Tryd.func31, bodySome _ (by kernel_rfl), by kernel_rfl, by kernel_rfl, by kernel_rfl, by kernel_rfl⟩
theorem run31 (F : Nat) (xs : List DV) : runP (ctx F []) L31 20 [.tmp 2] (body Tryd.f31) [.d (.slc 4 xs)] =
    Tr.val
      (.cnd (decide ((↑xs.length : Int) > 1200))
        (.ok (PV.d (DV.bool false)))
        (.chk (decide (0 ≤ 0) && decide (0 ≤ (↑xs.length : Int)) && decide (xs.length ≤ big) && xs.all okD)
        (.cnd (fewL (List.drop (Int.toNat 0) xs))
          (.ok (PV.d (DV.bool true)))
          (.ok (PV.d (DV.bool false)))))) := by kernel_rfl
theorem round36_0 (F : Nat) {R : Type} (xs : List DV) (s : List UInt8) (i : Int) (K : Ex → St → Option R) (G : St → Option R) : roundK (pcodeK (ctx F [(32, .pure S30)]) noL (lp Tryd.f36 0)) 0 (allBut 36 [0, 4, 5] ++ temps (lp Tryd.f36 0)) (allBut 36 [2, 3, 4]) ⟨slots 36 [(0, .d (.slc 4 xs)), (4, .d (.str s)), (5, .d (.int .i64 i))], []⟩ K G =
    Tr.run
      (.cnd (decide (i < (↑xs.length : Int)))
        (.chk (decide (0 ≤ i))
        (.chk (decide (i.toNat < xs.length))
        (.chk (fits [.int .i64 0, .str [], .int .i64 0, .int .i64 0] (gt DV.nili xs i.toNat).cells)
        (.chk (decide ((atS xs i.toNat (0 + 1)).length ≤ big) && decide (-9223372036854775808 ≤ atI xs i.toNat (0 + 1 + 1)) &&
        decide (atI xs i.toNat (0 + 1 + 1) ≤ 9223372036854775807))
        (.cnd (!decide
          (tokE (atI xs i.toNat 0) (atI xs i.toNat (0 + 1 + 1)) (atI xs i.toNat (0 + 1 + 1 + 1)) (atS xs i.toNat (0 + 1)) = 0))
          (.ok (.inl (Ex.ret, ⟨slots 36 [(2, PV.d (DV.str ([] : List UInt8))), (3, PV.d
        (DV.int IntKind.i64
          (tokE (atI xs i.toNat 0) (atI xs i.toNat (0 + 1 + 1)) (atI xs i.toNat (0 + 1 + 1 + 1)) (atS xs i.toNat (0 + 1))))), (4, PV.d (DV.str s))], []⟩)))
          (.cnd (decide (i > 0))
            (.chk (decide (s.length + ([32] : List UInt8).length ≤ 9223372036854775807))
            (.chk (decide
        ((s ++ ([32] : List UInt8)).length +
            (tokText (atI xs i.toNat 0) (atI xs i.toNat (0 + 1 + 1)) (atI xs i.toNat (0 + 1 + 1 + 1))
                (atS xs i.toNat (0 + 1))).length ≤
          9223372036854775807))
            (.ok (.inr ⟨slots 36 [(0, PV.d (DV.slc 4 xs)), (4, PV.d
        (DV.str
          (s ++ ([32] : List UInt8) ++
            tokText (atI xs i.toNat 0) (atI xs i.toNat (0 + 1 + 1)) (atI xs i.toNat (0 + 1 + 1 + 1))
              (atS xs i.toNat (0 + 1))))), (5, PV.d (DV.int IntKind.i64 (IntKind.i64.wrap (i + 1))))], []⟩))))
            (.chk (decide
        (s.length +
            (tokText (atI xs i.toNat 0) (atI xs i.toNat (0 + 1 + 1)) (atI xs i.toNat (0 + 1 + 1 + 1))
                (atS xs i.toNat (0 + 1))).length ≤
          9223372036854775807))
            (.ok (.inr ⟨slots 36 [(0, PV.d (DV.slc 4 xs)), (4, PV.d
        (DV.str
          (s ++
            tokText (atI xs i.toNat 0) (atI xs i.toNat (0 + 1 + 1)) (atI xs i.toNat (0 + 1 + 1 + 1))
              (atS xs i.toNat (0 + 1))))), (5, PV.d (DV.int IntKind.i64 (IntKind.i64.wrap (i + 1))))], []⟩)))))))))
        (.ok (.inl (Ex.exit 0, ⟨slots 36 [(4, PV.d (DV.str s))], []⟩)))) (rnd K G) := by kernel_rfl
/-! fasti fastiref16.Join -/
theorem fn36 : FnOk Tryd.prog 36 36 [.tmp 2, .tmp 3] (body Tryd.f36) := ⟨Tryd.f36, Tryd.func36, bodySome _ (by kernel_rfl), by kernel_rfl, by kernel_rfl, by kernel_rfl, by kernel_rfl⟩
theorem run36 (F : Nat) (xs : List DV) : runP (ctx F [(32, .pure S30)]) L36 36 [.tmp 2, .tmp 3] (body Tryd.f36) [.d (.slc 4 xs)] =
    Tr.val
      (.chk (decide (0 ≤ 0) && decide (0 ≤ (↑xs.length : Int)) && decide (xs.length ≤ big) && xs.all okD && xs.all shortD &&
        decide ((↑([] : List UInt8).length : Int) ≤ 300 * 0))
      (.cnd ((List.drop (Int.toNat 0) xs).all goodD)
        (.cnd (decide ((↑(joinL (decide (0 < 0)) ([] : List UInt8) (List.drop (Int.toNat 0) xs)).length : Int) > 2000))
          (.ok (PV.tup [PV.d (DV.str ([] : List UInt8)), PV.d (DV.int IntKind.i64 (5))]))
          (.ok (PV.tup
        [PV.d (DV.str (joinL (decide (0 < 0)) ([] : List UInt8) (List.drop (Int.toNat 0) xs))),
          PV.d (DV.int IntKind.i64 (0))])))
        (.ok (PV.tup [PV.d (DV.str []), PV.d (DV.int IntKind.i64 (2))])))) := by kernel_rfl
theorem round35_0 (F : Nat) {R : Type} (xs vs : List DV) (l i : Int) (K : Ex → St → Option R) (G : St → Option R) : roundK (pcodeK (ctx F [(30, .pure S30), (56, .pure S56)]) noL (lp Tryd.f35 0)) 0 (allBut 35 [4, 10, 11, 12] ++ temps (lp Tryd.f35 0)) (allBut 35 [2, 3, 4]) ⟨slots 35 [(4, .own 1 vs), (10, .d (.slc 4 xs)), (11, .d (.int .i64 l)), (12, .d (.int .i64 i))], []⟩ K G =
    Tr.run
      (.cnd (decide (i < l))
        (.chk (decide (0 ≤ i))
        (.chk (decide (i.toNat < xs.length))
        (.chk (fits [.int .i64 0, .str [], .int .i64 0, .int .i64 0] (gt DV.nili xs i.toNat).cells)
        (.chk (decide ((atS xs i.toNat (0 + 1)).length ≤ big) && decide (-9223372036854775808 ≤ atI xs i.toNat (0 + 1 + 1)) &&
        decide (atI xs i.toNat (0 + 1 + 1) ≤ 9223372036854775807))
        (.cnd (!decide
          (tokE (atI xs i.toNat 0) (atI xs i.toNat (0 + 1 + 1)) (atI xs i.toNat (0 + 1 + 1 + 1)) (atS xs i.toNat (0 + 1)) = 0))
          (.ok (.inl (Ex.ret, ⟨slots 35 [(2, PV.d (DV.str ([] : List UInt8))), (3, PV.d
        (DV.int IntKind.i64
          (tokE (atI xs i.toNat 0) (atI xs i.toNat (0 + 1 + 1)) (atI xs i.toNat (0 + 1 + 1 + 1)) (atS xs i.toNat (0 + 1))))), (4, PV.own 1 vs)], []⟩)))
          (.chk (limit 16
        (vs.length +
          (fillS (rep 1 (zeroDV ((ctx F [(30, EK.pure S30), (56, EK.pure S56)]).ty 9)))
              [(0,
                  DV.str
                    (tokText (atI xs i.toNat 0) (atI xs i.toNat (0 + 1 + 1)) (atI xs i.toNat (0 + 1 + 1 + 1))
                      (atS xs i.toNat (0 + 1))))]).length))
          (.ok (.inr ⟨slots 35 [(4, PV.own 1
        (vs ++
          [DV.str
              (tokText (atI xs i.toNat 0) (atI xs i.toNat (0 + 1 + 1)) (atI xs i.toNat (0 + 1 + 1 + 1))
                (atS xs i.toNat (0 + 1)))])), (10, PV.d (DV.slc 4 xs)), (11, PV.d (DV.int IntKind.i64 l)), (12, PV.d (DV.int IntKind.i64 (IntKind.i64.wrap (i + 1))))], []⟩))))))))
        (.ok (.inl (Ex.exit 0, ⟨slots 35 [(4, PV.own 1 vs)], []⟩)))) (rnd K G) := by kernel_rfl
/-! fasti token.Join -/
theorem fn35 : FnOk Tryd.prog 35 35 [.tmp 2, .tmp 3] (body Tryd.f35) := ⟨Tryd.f35, Tryd.func35, bodySome _ (by kernel_rfl), by kernel_rfl, by kernel_rfl, by kernel_rfl, by kernel_rfl⟩
theorem run35 (F : Nat) (xs : List DV) : runP (ctx F [(30, .pure S30), (56, .pure S56)]) L35 35 [.tmp 2, .tmp 3] (body Tryd.f35) [.d (.slc 4 xs)] =
    Tr.val
      (.chk (decide (0 ≤ 0) && decide (0 ≤ (↑xs.length : Int)) && decide (xs.length ≤ big) && xs.all okD && xs.all shortD &&
          decide ((0 : Int) ≤ 0) &&
        decide ((↑xs.length : Int) = (↑xs.length : Int)))
      (.cnd ((List.drop (Int.toNat 0) xs).all goodD)
        (.chk (allStr (vsL [] (List.drop (Int.toNat 0) xs)) &&
          decide ((vsL [] (List.drop (Int.toNat 0) xs)).length ≤ 140737488355328) &&
        decide
          ((Lib.join (strsOf (vsL [] (List.drop (Int.toNat 0) xs))) ([32] : List UInt8)).length ≤ 140737488355328))
        (.cnd (decide ((↑(Lib.join (strsOf (vsL [] (List.drop (Int.toNat 0) xs))) ([32] : List UInt8)).length : Int) > 2000))
          (.ok (PV.tup [PV.d (DV.str ([] : List UInt8)), PV.d (DV.int IntKind.i64 (5))]))
          (.ok (PV.tup
        [PV.d (DV.str (Lib.join (strsOf (vsL [] (List.drop (Int.toNat 0) xs))) ([32] : List UInt8))),
          PV.d (DV.int IntKind.i64 (0))]))))
        (.ok (PV.tup [PV.d (DV.str []), PV.d (DV.int IntKind.i64 (2))])))) := by kernel_rfl
end Go.PS
end

section
namespace Go.PS
open Go.Proofs
set_option linter.unusedSimpArgs false
theorem atI_c (l : List DV) (i j : Nat) : atI l i j = cI (gt .nili l i) j := rfl
theorem atS_c (l : List DV) (i j : Nat) : atS l i j = cS (gt .nili l i) j := rfl
theorem drop_gt {l : List DV} {i : Int} (h0 : 0 ≤ i) (h : i < l.length) : l.drop i.toNat = gt .nili l i.toNat :: l.drop (i + 1).toNat := by
  rw [List.drop_eq_getElem_cons (show i.toNat < l.length by omega), show (i + 1).toNat = i.toNat + 1 by omega, gt_eq]
  simp [show i.toNat < l.length by omega]
theorem all_gt {p : DV → Bool} {l : List DV} (h : l.all p = true) {i : Int} (h0 : 0 ≤ i) (hi : i < l.length) : p (gt .nili l i.toNat) = true := by
  rw [List.all_eq_true] at h
  apply h
  rw [gt_eq]
  simp [show i.toNat < l.length by omega]
theorem okD_p {v : DV} (h : okD v = true) : fits [.int .i64 0, .str [], .int .i64 0, .int .i64 0] v.cells = true ∧ -9223372036854775808 ≤ cI v 2 ∧ cI v 2 ≤ 9223372036854775807 := by
  simp only [okD, Bool.and_eq_true, decide_eq_true_eq] at h
  exact ⟨h.1.1, h.1.2, h.2⟩
theorem quote_len (s : List UInt8) (h : rightR 2 0 s = true) : (quoteR s).length ≤ 162 := by
  simp only [rightR, Bool.or_eq_true, Bool.and_eq_true, decide_eq_true_eq] at h
  rcases h with h | h
  · exact absurd h.1 (by decide)
  · rw [← quote_eq s (by unfold big; omega) h.2]
    have := flatB_len s
    unfold quoteB
    simp only [List.cons_append, List.length_cons, List.length_append, List.length_nil]
    omega
theorem markB_len (s : List UInt8) (h : markB s = true) : s.length ≤ 200 := by
  unfold markB at h
  simp only [Bool.or_eq_true, decide_eq_true_eq] at h
  rcases h with ((((((((h | h) | h) | h) | h) | h) | h) | h) | h) | h <;> subst h <;> simp
theorem txD_len (v : DV) (h : okD v = true) : (txD v).length ≤ 200 := by
  obtain ⟨_, h1, h2⟩ := okD_p h
  unfold txD
  cases hr : tokRight (cI v 0) (cI v 2) (cI v 3) (cS v 1) with
  | false => rw [tokText_f hr]; simp
  | true =>
    rw [tokText_t hr]
    have e1 := itoa_len20 (cI v 2) (by omega)
    obtain ⟨_, (⟨k, _, h3, _⟩ | ⟨k, _⟩ | ⟨k, _, h3⟩ | ⟨k, _⟩ | ⟨k, _, h3⟩)⟩ := tokRight_k hr <;> simp only [k]
    · simp; omega
    · simp; omega
    · have := quote_len _ h3; simp; omega
    · simp; omega
    · have := markB_len _ h3; simp; omega
theorem teD (v : DV) : tokE (cI v 0) (cI v 2) (cI v 3) (cS v 1) = if goodD v = true then 0 else 2 := rfl
theorem loop31 (F : Nat) {R : Type} (xs : List DV) (K : Ex → St → Option R) (hs : xs.length ≤ 1000000) (ho : xs.all okD = true) :
    ∀ (m : Nat) (i : Int), 0 ≤ i → i ≤ xs.length → (xs.length - i).toNat < m →
      loopK (pcodeK (ctx F []) noL (lp Tryd.f31 0)) 0 (allBut 20 [0, 3] ++ temps (lp Tryd.f31 0)) (allBut 20 [0, 2]) m
        ⟨slots 20 [(0, .d (.slc 4 xs)), (3, .d (.int .i64 i))], []⟩ K =
      PS.cnd (fewL (xs.drop i.toNat)) (K (.exit 0) ⟨slots 20 [(0, .d (.slc 4 xs))], []⟩) (K .ret ⟨slots 20 [(0, .d (.slc 4 xs)), (2, .d (.bool false))], []⟩) := by
  intro m
  induction m with
  | zero => intro i _ _ hm; omega
  | succ m ih =>
    intro i h0 h1 hm
    rw [loopK_succ, round31_0]
    by_cases hk : i < xs.length
    · have w : IntKind.i64.wrap (i + 1) = i + 1 := wrap64 (by omega) (by omega)
      have ih1 := ih (i + 1) (by omega) (by omega) (by omega)
      have hf := (okD_p (all_gt ho h0 hk)).1
      rw [drop_gt h0 hk]
      simp only [Tr.run, rnd, w, ih1, atS_c, hf]
      rw [cnd_p hk, chk_p h0, chk_p (by omega), chk_tt]
      simp only [fewL, List.all_cons, cnd_if, Bool.and_eq_true, decide_eq_true_eq]
      grind
    · have e : xs.drop i.toNat = [] := List.drop_eq_nil_of_le (by omega)
      rw [e]
      simp only [Tr.run, rnd]
      rw [cnd_n hk]
      rfl
theorem lps31 (F : Nat) (hF : F = FU) : LpsOk (ctx F []) L31 (loopsOf (body Tryd.f31)) := by
  refine lps_one (c := lp Tryd.f31 0) rfl (by kernel_rfl) fun R st K r h => ?_
  unfold T31 at h
  cases hs : shape 20 [0, 3] st.slots with
  | false => rw [hs] at h; simp [Tr.run] at h
  | true =>
  rw [hs] at h
  simp only [cond_true] at h
  have he := shape_eq hs
  obtain ⟨sl0, H⟩ := st
  dsimp only at h he ⊢
  split at h
  · rename_i xs i g0 g1
    simp only [List.map_cons, List.map_nil, g0, g1] at he
    subst he
    simp only [Tr.run] at h
    cases hc : (decide (0 ≤ i) && decide (i ≤ xs.length) && decide (xs.length ≤ big) && xs.all okD) with
    | false => rw [hc] at h; simp at h
    | true =>
    rw [hc] at h
    simp only [Bool.and_eq_true, decide_eq_true_eq] at hc
    obtain ⟨⟨⟨h0, h1⟩, h2⟩, h3⟩ := hc
    unfold big at h2
    refine (loop31 F xs K h2 h3 F i h0 h1 (by rw [hF]; unfold FU; omega)).trans ?_
    rw [← h]
    rfl
  · simp [Tr.run] at h
theorem ok31 (W0 : World) : EKOk Tryd.prog W0 31 (.pure S31) := by
  refine pure_of (tyOk FU []) (look_ok all_nil) mixed fn31 (lps31 FU rfl) fun args r h => ?_
  unfold S31 at h
  split at h
  · rename_i xs
    refine (run31 FU xs).trans ?_
    rw [← h]
    simp only [Tr.val_chk, chk_some] at h
    obtain ⟨h0, _⟩ := h
    simp only [Tr.val_ok, Tr.val_cnd, Tr.val_chk, h0]
    have e : List.drop (Int.toNat 0) xs = xs := rfl
    rw [e, chk_tt]
    unfold fewB
    by_cases hl : xs.length ≤ 1200
    · rw [cnd_n (by omega), chk_t (by simp only [Bool.and_eq_true, decide_eq_true_eq, and_true]; unfold big; omega)]
      simp only [hl, decide_true, Bool.true_and]
      cases fewL xs <;> rfl
    · rw [cnd_p (by omega)]
      simp only [hl, decide_false, Bool.false_and]
  · simp [Tr.val_no] at h
end Go.PS
end

section
namespace Go.PS
open Go.Proofs
set_option linter.unusedSimpArgs false
theorem join_one (x : List UInt8) : Lib.join [x] [32] = x := by unfold Lib.join List.intercalate; simp
theorem join_cons (x y : List UInt8) (l : List (List UInt8)) : Lib.join (x :: y :: l) [32] = x ++ 32 :: Lib.join (y :: l) [32] := by
  unfold Lib.join List.intercalate; simp [List.intersperse]
theorem joinL_true : ∀ (l : List DV) (s : List UInt8), l.all goodD = true → joinL true s l = if l = [] then s else s ++ 32 :: Lib.join (l.map txD) [32]
  | [], s, _ => rfl
  | v :: l, s, h => by
    simp only [List.all_cons, Bool.and_eq_true] at h
    rw [joinL, if_pos h.1, if_pos rfl, joinL_true l _ h.2, if_neg (List.cons_ne_nil v l)]
    cases l with
    | nil => simp [join_one]
    | cons w l => simp [join_cons]
theorem joinL_X (l : List DV) (h : l.all goodD = true) : joinL false [] l = joinX l := by
  cases l with
  | nil => rfl
  | cons v l =>
    have h' := h
    simp only [List.all_cons, Bool.and_eq_true] at h
    rw [joinL, if_pos h.1, if_neg Bool.false_ne_true, joinL_true l _ h.2]
    unfold joinX
    cases l with
    | nil => simp [join_one]
    | cons w l => simp [join_cons]
theorem vsL_X : ∀ (l : List DV) (vs : List DV), l.all goodD = true → vsL vs l = vs ++ l.map fun v => DV.str (txD v)
  | [], vs, _ => by simp [vsL]
  | v :: l, vs, h => by
    simp only [List.all_cons, Bool.and_eq_true] at h
    rw [vsL, if_pos h.1, vsL_X l _ h.2]; simp
theorem strs_X (l : List DV) : strsOf (l.map fun v => DV.str (txD v)) = l.map txD := by
  induction l with
  | nil => rfl
  | cons v l ih => simp [strsOf, ih]
theorem allStr_X (l : List DV) : allStr (l.map fun v => DV.str (txD v)) = true := by
  induction l with
  | nil => rfl
  | cons v l ih => exact ih
theorem join_len (l : List DV) (h : l.all okD = true) : (joinX l).length ≤ 201 * l.length := by
  induction l with
  | nil => exact Nat.le_refl _
  | cons v l ih =>
    simp only [List.all_cons, Bool.and_eq_true] at h
    have e := txD_len v h.1
    have i := ih h.2
    unfold joinX at i ⊢
    cases l with
    | nil => simp only [List.map_cons, List.map_nil, join_one, List.length_cons, List.length_nil]; omega
    | cons w l => simp only [List.map_cons, join_cons, List.length_append, List.length_cons] at i ⊢; omega
theorem loop36 (F : Nat) {R : Type} (xs : List DV) (K : Ex → St → Option R) (hs : xs.length ≤ 1000000) (ho : xs.all okD = true) (hb : xs.all shortD = true) :
    ∀ (m : Nat) (i : Int) (s : List UInt8), 0 ≤ i → i ≤ xs.length → s.length ≤ 300 * i → (xs.length - i).toNat < m →
      loopK (pcodeK (ctx F [(32, .pure S30)]) noL (lp Tryd.f36 0)) 0 (allBut 36 [0, 4, 5] ++ temps (lp Tryd.f36 0)) (allBut 36 [2, 3, 4]) m
        ⟨slots 36 [(0, .d (.slc 4 xs)), (4, .d (.str s)), (5, .d (.int .i64 i))], []⟩ K =
      PS.cnd ((xs.drop i.toNat).all goodD)
        (K (.exit 0) ⟨slots 36 [(4, .d (.str (joinL (decide (0 < i)) s (xs.drop i.toNat))))], []⟩)
        (K .ret ⟨slots 36 [(2, .d (.str [])), (3, .d (.int .i64 2)), (4, .d (.str (joinL (decide (0 < i)) s (xs.drop i.toNat))))], []⟩) := by
  intro m
  induction m with
  | zero => intro i s _ _ _ hm; omega
  | succ m ih =>
    intro i s h0 h1 h2 hm
    rw [loopK_succ, round36_0]
    by_cases hk : i < xs.length
    · have w : IntKind.i64.wrap (i + 1) = i + 1 := wrap64 (by omega) (by omega)
      have og := all_gt ho h0 hk
      obtain ⟨hf, hn1, hn2⟩ := okD_p og
      have hsh := all_gt hb h0 hk
      unfold shortD at hsh
      have tl := txD_len _ og
      have i1 := ih (i + 1) (s ++ [32] ++ txD (gt .nili xs i.toNat)) (by omega) (by omega) (by simp only [List.length_append, List.length_cons, List.length_nil]; omega) (by omega)
      have i2 := ih (i + 1) (s ++ txD (gt .nili xs i.toNat)) (by omega) (by omega) (by simp only [List.length_append]; omega) (by omega)
      have d1 : decide (0 < i + 1) = true := by rw [decide_eq_true_eq]; omega
      rw [d1] at i1 i2
      clear ih
      rw [drop_gt h0 hk]
      simp only [Tr.run, rnd, w, atS_c, atI_c, hf, Nat.zero_add, Nat.reduceAdd, teD]
      rw [cnd_p hk, chk_p h0, chk_p (by omega), chk_tt, hsh, decide_eq_true hn1, decide_eq_true hn2]
      rw [show (true && true && true) = true from rfl, chk_tt]
      generalize gt .nili xs i.toNat = v at *
      rw [show tokText (cI v 0) (cI v 2) (cI v 3) (cS v 1) = txD v from rfl]
      rw [i1, i2]
      rw [chk_p (by simp only [List.length_cons, List.length_nil]; omega), chk_p (by simp only [List.length_append, List.length_cons, List.length_nil]; omega), chk_p (by omega)]
      simp only [List.all_cons, joinL]
      cases hg : goodD v with
      | false => rfl
      | true =>
        by_cases hi : i > 0
        · rw [cnd_f (by rfl), cnd_p hi]; simp only [show 0 < i from hi, decide_true, if_true, Bool.true_and]
        · rw [cnd_f (by rfl), cnd_n hi]; simp only [show ¬ 0 < i from hi, decide_false, if_true, Bool.true_and, Bool.false_eq_true, if_false]
    · have e : xs.drop i.toNat = [] := List.drop_eq_nil_of_le (by omega)
      rw [e]
      simp only [Tr.run, rnd]
      rw [cnd_n hk]
      rfl
theorem lps36 (F : Nat) (hF : F = FU) : LpsOk (ctx F [(32, .pure S30)]) L36 (loopsOf (body Tryd.f36)) := by
  refine lps_one (c := lp Tryd.f36 0) rfl (by kernel_rfl) fun R st K r h => ?_
  unfold T36 at h
  cases hs : shape 36 [0, 4, 5] st.slots with
  | false => rw [hs] at h; simp [Tr.run] at h
  | true =>
  rw [hs] at h
  simp only [cond_true] at h
  have he := shape_eq hs
  obtain ⟨sl0, H⟩ := st
  dsimp only at h he ⊢
  split at h
  · rename_i xs s i g0 g1 g2
    simp only [List.map_cons, List.map_nil, g0, g1, g2] at he
    subst he
    simp only [Tr.run] at h
    cases hc : (decide (0 ≤ i) && decide (i ≤ xs.length) && decide (xs.length ≤ big) && xs.all okD && xs.all shortD && decide (s.length ≤ 300 * i)) with
    | false => rw [hc] at h; simp at h
    | true =>
    rw [hc] at h
    simp only [Bool.and_eq_true, decide_eq_true_eq] at hc
    obtain ⟨⟨⟨⟨⟨h0, h1⟩, h2⟩, h3⟩, h4⟩, h5⟩ := hc
    unfold big at h2
    refine (loop36 F xs K h2 h3 h4 F i s h0 h1 h5 (by rw [hF]; unfold FU; omega)).trans ?_
    rw [← h]
    rfl
  · simp [Tr.run] at h
theorem ok36 (W0 : World) (hW : Laid W0) : EKOk Tryd.prog W0 36 (.pure S35) := by
  refine pure_of (tyOk FU [(32, .pure S30)]) (look_ok (all_cons (ok32 W0 hW) all_nil)) mixed fn36 (lps36 FU rfl) fun args r h => ?_
  unfold S35 at h
  split at h
  · rename_i xs
    refine (run36 FU xs).trans ?_
    rw [← h]
    simp only [Tr.val_chk, chk_some, Bool.and_eq_true, decide_eq_true_eq] at h
    obtain ⟨⟨⟨h0, h1⟩, h2⟩, _⟩ := h
    simp only [Tr.val_ok, Tr.val_cnd, Tr.val_chk, h0, h1, decide_eq_true h2]
    have e : List.drop (Int.toNat 0) xs = xs := rfl
    have e0 : decide (0 < 0) = false := rfl
    rw [e, chk_t (by simp), show (true && true && true) = true from rfl, chk_tt]
    rw [e0]
    unfold joinT joinE
    cases hg : xs.all goodD with
    | false => rfl
    | true =>
      rw [cnd_tt, joinL_X _ hg]
      by_cases hl : (joinX xs).length ≤ 2000
      · rw [cnd_n (by omega)]; simp only [hl, if_true, and_self, show ¬ 2000 < (joinX xs).length by omega, if_false]
      · rw [cnd_p (by omega)]; simp only [hl, if_true, and_false, show 2000 < (joinX xs).length by omega, if_false]
  · simp [Tr.val_no] at h
theorem loop35 (F : Nat) {R : Type} (xs : List DV) (l : Int) (hl : l = xs.length) (K : Ex → St → Option R) (hs : xs.length ≤ 1000000) (ho : xs.all okD = true) (hb : xs.all shortD = true) :
    ∀ (m : Nat) (i : Int) (vs : List DV), 0 ≤ i → i ≤ xs.length → vs.length ≤ i → (xs.length - i).toNat < m →
      loopK (pcodeK (ctx F [(30, .pure S30), (56, .pure S56)]) noL (lp Tryd.f35 0)) 0 (allBut 35 [4, 10, 11, 12] ++ temps (lp Tryd.f35 0)) (allBut 35 [2, 3, 4]) m
        ⟨slots 35 [(4, .own 1 vs), (10, .d (.slc 4 xs)), (11, .d (.int .i64 l)), (12, .d (.int .i64 i))], []⟩ K =
      PS.cnd ((xs.drop i.toNat).all goodD)
        (K (.exit 0) ⟨slots 35 [(4, .own 1 (vsL vs (xs.drop i.toNat)))], []⟩)
        (K .ret ⟨slots 35 [(2, .d (.str [])), (3, .d (.int .i64 2)), (4, .own 1 (vsL vs (xs.drop i.toNat)))], []⟩) := by
  intro m
  induction m with
  | zero => intro i s _ _ _ hm; omega
  | succ m ih =>
    intro i vs h0 h1 h2 hm
    rw [loopK_succ, round35_0]
    by_cases hk : i < xs.length
    · have w : IntKind.i64.wrap (i + 1) = i + 1 := wrap64 (by omega) (by omega)
      have og := all_gt ho h0 hk
      obtain ⟨hf, hn1, hn2⟩ := okD_p og
      have hsh := all_gt hb h0 hk
      unfold shortD at hsh
      have i1 := ih (i + 1) (vs ++ [DV.str (txD (gt .nili xs i.toNat))]) (by omega) (by omega) (by simp only [List.length_append, List.length_cons, List.length_nil]; omega) (by omega)
      clear ih
      rw [drop_gt h0 hk]
      simp only [Tr.run, rnd, w, atS_c, atI_c, hf, Nat.zero_add, Nat.reduceAdd, teD]
      have hlim : ∀ k : Nat, k = 1 → limit 16 (vs.length + k) = true := by rintro k rfl; unfold limit; rw [decide_eq_true_eq]; omega
      rw [cnd_p (by omega), chk_p h0, chk_p (by omega), chk_tt, hsh, decide_eq_true hn1, decide_eq_true hn2]
      rw [show (true && true && true) = true from rfl, chk_tt, chk_t (by exact hlim _ rfl)]
      generalize gt .nili xs i.toNat = v at *
      rw [show tokText (cI v 0) (cI v 2) (cI v 3) (cS v 1) = txD v from rfl]
      rw [i1]
      simp only [List.all_cons, vsL]
      cases hg : goodD v with
      | false => rfl
      | true => rw [cnd_f (by rfl)]; simp only [if_true, Bool.true_and]
    · have e : xs.drop i.toNat = [] := List.drop_eq_nil_of_le (by omega)
      rw [e]
      simp only [Tr.run, rnd]
      rw [cnd_n (by omega)]
      rfl
theorem lps35 (F : Nat) (hF : F = FU) : LpsOk (ctx F [(30, .pure S30), (56, .pure S56)]) L35 (loopsOf (body Tryd.f35)) := by
  refine lps_one (c := lp Tryd.f35 0) rfl (by kernel_rfl) fun R st K r h => ?_
  unfold T35 at h
  cases hs : shape 35 [4, 10, 11, 12] st.slots with
  | false => rw [hs] at h; simp [Tr.run] at h
  | true =>
  rw [hs] at h
  simp only [cond_true] at h
  have he := shape_eq hs
  obtain ⟨sl0, H⟩ := st
  dsimp only at h he ⊢
  split at h
  · rename_i vs xs l i g0 g1 g2 g3
    simp only [List.map_cons, List.map_nil, g0, g1, g2, g3] at he
    subst he
    simp only [Tr.run] at h
    cases hc : (decide (0 ≤ i) && decide (i ≤ xs.length) && decide (xs.length ≤ big) && xs.all okD && xs.all shortD && decide (vs.length ≤ i) && decide (l = xs.length)) with
    | false => rw [hc] at h; simp at h
    | true =>
    rw [hc] at h
    simp only [Bool.and_eq_true, decide_eq_true_eq] at hc
    obtain ⟨⟨⟨⟨⟨⟨h0, h1⟩, h2⟩, h3⟩, h4⟩, h5⟩, h6⟩ := hc
    unfold big at h2
    refine (loop35 F xs l h6 K h2 h3 h4 F i vs h0 h1 h5 (by rw [hF]; unfold FU; omega)).trans ?_
    rw [← h]
    rfl
  · simp [Tr.run] at h
theorem ok35 (W0 : World) (hW : Laid W0) : EKOk Tryd.prog W0 35 (.pure S35) := by
  refine pure_of (tyOk FU [(30, .pure S30), (56, .pure S56)]) (look_ok (all_cons (ok30 W0 hW) (all_cons ok56 all_nil))) mixed fn35 (lps35 FU rfl) fun args r h => ?_
  unfold S35 at h
  split at h
  · rename_i xs
    refine (run35 FU xs).trans ?_
    rw [← h]
    simp only [Tr.val_chk, chk_some, Bool.and_eq_true, decide_eq_true_eq] at h
    obtain ⟨⟨⟨h0, h1⟩, h2⟩, _⟩ := h
    simp only [Tr.val_ok, Tr.val_cnd, Tr.val_chk, h0, h1, decide_eq_true h2]
    have e : List.drop (Int.toNat 0) xs = xs := rfl
    rw [e, chk_t (by simp), show (true && true && true) = true from rfl, chk_tt]
    unfold joinT joinE
    cases hg : xs.all goodD with
    | false => rfl
    | true =>
      have jl := join_len xs h0
      unfold big at h2
      rw [cnd_tt, vsL_X _ _ hg, List.nil_append, allStr_X, strs_X]
      rw [show Lib.join (xs.map txD) [32] = joinX xs from rfl]
      rw [chk_t (by simp only [Bool.and_eq_true, decide_eq_true_eq, true_and, List.length_map]; omega)]
      by_cases hl : (joinX xs).length ≤ 2000
      · rw [cnd_n (by omega)]; simp only [hl, if_true, and_self, show ¬ 2000 < (joinX xs).length by omega, if_false]
      · rw [cnd_p (by omega)]; simp only [hl, if_true, and_false, show 2000 < (joinX xs).length by omega, if_false]
  · simp [Tr.val_no] at h
end Go.PS
end

section
namespace Go.PS
open Go.Proofs
set_option linter.unusedSimpArgs false
/-- a result whose own slices are taken as data -/
def plainR : PV → PV
  | .tup vs => .tup (vs.map PV.plain)
  | v => v.plain
theorem plainL_enc {o w sig vs xs} (h : PEncL o w sig vs xs) : PEncL o w sig (vs.map PV.plain) xs := by
  match h with
  | .nil => exact .nil
  | .cons hh t => exact .cons hh.plain (plainL_enc t)
theorem plainR_enc {o w sig v x} (h : PEnc o w sig v x) : PEnc o w sig (plainR v) x := by
  unfold plainR
  split
  · cases h with | tup h => exact .tup (plainL_enc h)
  · exact h.plain
theorem gt_plain (vs : List PV) (k : Nat) : gt .undef (vs.map PV.plain) k = (gt .undef vs k).plain := by
  induction vs generalizing k with
  | nil => rfl
  | cons v vs ih => cases k with
    | zero => rfl
    | succ k => exact ih k
theorem plainR_cmp (v : PV) (k : Nat) : (cmpV (plainR v) k).noOwn := by
  unfold plainR
  split
  · unfold cmpV
    dsimp only
    rw [gt_plain]
    exact PV.plain_noOwn _
  · rename_i h
    have hp : ∀ vs, v.plain ≠ .tup vs := by cases v <;> simp_all [PV.plain]
    unfold cmpV
    split
    · rename_i vs e; exact absurd e (hp vs)
    · split
      · exact PV.plain_noOwn _
      · trivial
theorem ek_plain {P : Program} {W0 : World} {f : Nat} {S S' : List PV → Tr PV} (h : EKOk P W0 f (.pure S)) (hm : ∀ args v, (S' args).val = some v → ∃ u, (S args).val = some u ∧ v = plainR u) : EKOk P W0 f (.pure S') :=
  ⟨h.enters, fun args v hv o sig w xs g r e => by
    obtain ⟨u, hu, rfl⟩ := hm args v hv
    refine (h.calls args u hu o sig w xs g r e).mono ?_
    rintro e' w' ⟨x, o', h1, h2, h3, _⟩
    exact ⟨x, o', h1, h2, plainR_enc h3, fun k => Cap.of_noOwn (plainR_cmp u k)⟩⟩
/-- the tokens read; none on an error -/
def lexT (s : List UInt8) : List DV := if (lexR s).err = 0 then (lexR s).toks else []
def S13p : List PV → Tr PV
  | [.d (.str s)] => .chk (decide (s.length ≤ big)) (.ok (.tup [.d (.slc 4 (lexT s)), .d (.int .i64 (lexR s).pos), .d (.int .i64 (lexR s).err)]))
  | _ => .no
theorem ok13p (W0 : World) (hW : Laid W0) : EKOk Tryd.prog W0 13 (.pure S13p) := ek_plain (ok13 W0 hW) fun args v h => by
  unfold S13p at h
  unfold S13
  split at h
  · rename_i s
    simp only [Tr.val_chk, Tr.val_ok, Tr.val_cnd, chk_some, Option.some.injEq] at h ⊢
    obtain ⟨h0, rfl⟩ := h
    unfold lexT
    by_cases e : (lexR s).err = 0
    · refine ⟨.tup [.d (.slc 4 (lexR s).toks), .d (.int .i64 (lexR s).pos), .d (.int .i64 (lexR s).err)], ⟨h0, ?_⟩, ?_⟩
      · rw [cnd_p e]
      · rw [if_pos e]; rfl
    · refine ⟨.tup [.own 4 [], .d (.int .i64 (lexR s).pos), .d (.int .i64 (lexR s).err)], ⟨h0, ?_⟩, ?_⟩
      · rw [cnd_n e]
      · rw [if_neg e]; rfl
  · simp [Tr.val_no] at h
def bl (k : Nat) : List UInt8 := List.replicate k 32
/-- tokens one behind another, each where its text begins; and in the other list the same ones further on -/
def standB (s : List UInt8) (k : Int) (xs ys : List DV) (fin : Int) : Bool :=
  match xs, ys with
  | [], _ => true
  | x :: xs, y :: ys => okD x && shortD x && goodD x && decide (fin ≤ cI x 3) && decide (0 ≤ cI x 3) && decide (cI x 3 + (txD x).length ≤ s.length) && decide ((s.take (cI x 3 + (txD x).length).toNat).drop (cI x 3).toNat = txD x) && okD y && decide (cI y 3 = cI x 3 + k) && standB s k xs ys (cI x 3 + (txD x).length)
  | _ :: _, [] => false
def T9a (st : St) : Tr (Ex × St) :=
  bif shape 138 [0, 1, 5, 6, 7, 8, 9] st.slots then
    match gt .undef st.slots 0, gt .undef st.slots 1, gt .undef st.slots 5, gt .undef st.slots 6, gt .undef st.slots 7, gt .undef st.slots 8, gt .undef st.slots 9, st.heap with
    | .d (.str s), .d (.int .i64 k), .d (.slc 4 xs), .d (.int .i64 n), .d (.int .i64 e), .d (.str b), .d (.int .i64 i), [] =>
      .chk (decide (0 ≤ i) && decide (i ≤ k) && decide (k ≤ 50) && decide (b = bl i.toNat))
        (.ok (.exit 0, ⟨slots 138 [(0, .d (.str s)), (1, .d (.int .i64 k)), (5, .d (.slc 4 xs)), (6, .d (.int .i64 n)), (7, .d (.int .i64 e)), (8, .d (.str (bl k.toNat)))], []⟩))
    | _, _, _, _, _, _, _, _ => .no
  else .no
def T9b (st : St) : Tr (Ex × St) :=
  bif shape 138 [0, 1, 5, 10, 13, 14] st.slots then
    match gt .undef st.slots 0, gt .undef st.slots 1, gt .undef st.slots 5, gt .undef st.slots 10, gt .undef st.slots 13, gt .undef st.slots 14, st.heap with
    | .d (.str s), .d (.int .i64 k), .d (.slc 4 xs), .d (.slc 4 ys), .d (.int .i64 fin), .d (.int .i64 i), [] =>
      .chk (decide (0 ≤ i) && decide (i ≤ xs.length) && decide (xs.length ≤ big) && decide (s.length ≤ big) && decide (0 ≤ k) && decide (k ≤ 50) && standB s k (xs.drop i.toNat) (ys.drop i.toNat) fin)
        (.ok (.exit 2, ⟨slots 138 [], []⟩))
    | _, _, _, _, _, _, _ => .no
  else .no
def L9 : Lps := fun i => bif Nat.beq i 6 then some (allBut 138 [0, 1, 5, 6, 7, 8, 9], allBut 138 [0, 1, 5, 6, 7, 8], T9a) else bif Nat.beq i 14 then some (allBut 138 [0, 1, 5, 10, 13, 14], allBut 138 [4], T9b) else none
def S9 : List PV → Tr PV
  | [.d (.str _), .d (.int .i64 _)] => .ok (.d (.bool true))
  | _ => .no
end Go.PS
end

section
namespace Go.PS
open Go.Proofs
set_option maxRecDepth 100000
theorem round9_0 (F : Nat) {R : Type} (s b : List UInt8) (k n e i : Int) (xs : List DV) (K : Ex → St → Option R) (G : St → Option R) : roundK (pcodeK (ctx F [(12, .pure S12), (13, .pure S13p), (30, .pure S30)]) noL (lp Tryd.f9 0)) 0 (allBut 138 [0, 1, 5, 6, 7, 8, 9] ++ temps (lp Tryd.f9 0)) (allBut 138 [0, 1, 5, 6, 7, 8]) ⟨slots 138 [(0, .d (.str s)), (1, .d (.int .i64 k)), (5, .d (.slc 4 xs)), (6, .d (.int .i64 n)), (7, .d (.int .i64 e)), (8, .d (.str b)), (9, .d (.int .i64 i))], []⟩ K G =
    Tr.run
      (.cnd (decide (i < k))
        (.chk (decide (b.length + ([32] : List UInt8).length ≤ 9223372036854775807))
        (.ok (.inr ⟨slots 138 [(0, PV.d (DV.str s)), (1, PV.d (DV.int IntKind.i64 k)), (5, PV.d (DV.slc 4 xs)), (6, PV.d (DV.int IntKind.i64 n)), (7, PV.d (DV.int IntKind.i64 e)), (8, PV.d (DV.str (b ++ ([32] : List UInt8)))), (9, PV.d (DV.int IntKind.i64 (IntKind.i64.wrap (i + 1))))], []⟩)))
        (.ok (.inl (Ex.exit 0, ⟨slots 138 [(0, PV.d (DV.str s)), (1, PV.d (DV.int IntKind.i64 k)), (5, PV.d (DV.slc 4 xs)), (6, PV.d (DV.int IntKind.i64 n)), (7, PV.d (DV.int IntKind.i64 e)), (8, PV.d (DV.str b))], []⟩)))) (rnd K G) := by kernel_rfl
theorem round9_1 (F : Nat) {R : Type} (s : List UInt8) (k fin i : Int) (xs ys : List DV) (K : Ex → St → Option R) (G : St → Option R) : roundK (pcodeK (ctx F [(12, .pure S12), (13, .pure S13p), (30, .pure S30)]) noL (lp Tryd.f9 1)) 0 (allBut 138 [0, 1, 5, 10, 13, 14] ++ temps (lp Tryd.f9 1)) (allBut 138 [4]) ⟨slots 138 [(0, .d (.str s)), (1, .d (.int .i64 k)), (5, .d (.slc 4 xs)), (10, .d (.slc 4 ys)), (13, .d (.int .i64 fin)), (14, .d (.int .i64 i))], []⟩ K G =
    Tr.run
      (.cnd (decide (i < (↑xs.length : Int)))
        (.chk (decide (0 ≤ i))
        (.chk (decide (i.toNat < xs.length))
        (.chk (fits [.int .i64 0, .str [], .int .i64 0, .int .i64 0] (gt DV.nili xs i.toNat).cells)
        (.chk (decide ((atS xs i.toNat (0 + 1)).length ≤ big) && decide (-9223372036854775808 ≤ atI xs i.toNat (0 + 1 + 1)) &&
        decide (atI xs i.toNat (0 + 1 + 1) ≤ 9223372036854775807))
        (.chk (decide (0 ≤ i))
        (.chk (decide (i.toNat < xs.length))
        (.chk (fits [.int .i64 0, .str [], .int .i64 0, .int .i64 0] (gt DV.nili xs i.toNat).cells)
        (.cnd (!decide
          (tokE (atI xs i.toNat 0) (atI xs i.toNat (0 + 1 + 1)) (atI xs i.toNat (0 + 1 + 1 + 1)) (atS xs i.toNat (0 + 1)) = 0))
          (.ok (.inl (Ex.ret, ⟨slots 138 [(4, PV.d (DV.bool false))], []⟩)))
          (.cnd (decide (atI xs i.toNat (0 + 1 + 1 + 1) < fin))
            (.ok (.inl (Ex.ret, ⟨slots 138 [(4, PV.d (DV.bool false))], []⟩)))
            (.cnd (decide
        (IntKind.i64.wrap
            (atI xs i.toNat (0 + 1 + 1 + 1) +
              (↑(tokText (atI xs i.toNat 0) (atI xs i.toNat (0 + 1 + 1)) (atI xs i.toNat (0 + 1 + 1 + 1))
                      (atS xs i.toNat (0 + 1))).length :
                Int)) >
          (↑s.length : Int)))
              (.ok (.inl (Ex.ret, ⟨slots 138 [(4, PV.d (DV.bool false))], []⟩)))
              (.cnd (decide
        (IntKind.i64.wrap
            (atI xs i.toNat (0 + 1 + 1 + 1) +
              (↑(tokText (atI xs i.toNat 0) (atI xs i.toNat (0 + 1 + 1)) (atI xs i.toNat (0 + 1 + 1 + 1))
                      (atS xs i.toNat (0 + 1))).length :
                Int)) <
          atI xs i.toNat (0 + 1 + 1 + 1)))
                (.ok (.inl (Ex.ret, ⟨slots 138 [(4, PV.d (DV.bool false))], []⟩)))
                (.chk (decide (0 ≤ atI xs i.toNat (0 + 1 + 1 + 1)))
                (.chk (decide
        (atI xs i.toNat (0 + 1 + 1 + 1) ≤
          IntKind.i64.wrap
            (atI xs i.toNat (0 + 1 + 1 + 1) +
              (↑(tokText (atI xs i.toNat 0) (atI xs i.toNat (0 + 1 + 1)) (atI xs i.toNat (0 + 1 + 1 + 1))
                      (atS xs i.toNat (0 + 1))).length :
                Int))))
                (.chk (decide
        (IntKind.i64.wrap
            (atI xs i.toNat (0 + 1 + 1 + 1) +
              (↑(tokText (atI xs i.toNat 0) (atI xs i.toNat (0 + 1 + 1)) (atI xs i.toNat (0 + 1 + 1 + 1))
                      (atS xs i.toNat (0 + 1))).length :
                Int)) ≤
          (↑s.length : Int)))
                (.cnd (!decide
          (List.drop (atI xs i.toNat (0 + 1 + 1 + 1)).toNat
              (List.take
                (IntKind.i64.wrap
                    (atI xs i.toNat (0 + 1 + 1 + 1) +
                      (↑(tokText (atI xs i.toNat 0) (atI xs i.toNat (0 + 1 + 1)) (atI xs i.toNat (0 + 1 + 1 + 1))
                              (atS xs i.toNat (0 + 1))).length :
                        Int))).toNat
                s) =
            tokText (atI xs i.toNat 0) (atI xs i.toNat (0 + 1 + 1)) (atI xs i.toNat (0 + 1 + 1 + 1)) (atS xs i.toNat (0 + 1))))
                  (.ok (.inl (Ex.ret, ⟨slots 138 [(4, PV.d (DV.bool false))], []⟩)))
                  (.chk (decide (0 ≤ i))
                  (.chk (decide (i.toNat < ys.length))
                  (.chk (fits [.int .i64 0, .str [], .int .i64 0, .int .i64 0] (gt DV.nili ys i.toNat).cells)
                  (.cnd (!decide (atI ys i.toNat (0 + 1 + 1 + 1) = IntKind.i64.wrap (atI xs i.toNat (0 + 1 + 1 + 1) + k)))
                    (.ok (.inl (Ex.ret, ⟨slots 138 [(4, PV.d (DV.bool false))], []⟩)))
                    (.ok (.inr ⟨slots 138 [(0, PV.d (DV.str s)), (1, PV.d (DV.int IntKind.i64 k)), (5, PV.d (DV.slc 4 xs)), (10, PV.d (DV.slc 4 ys)), (13, PV.d
        (DV.int IntKind.i64
          (IntKind.i64.wrap
            (atI xs i.toNat (0 + 1 + 1 + 1) +
              (↑(tokText (atI xs i.toNat 0) (atI xs i.toNat (0 + 1 + 1)) (atI xs i.toNat (0 + 1 + 1 + 1))
                      (atS xs i.toNat (0 + 1))).length :
                Int))))), (14, PV.d (DV.int IntKind.i64 (IntKind.i64.wrap (i + 1))))], []⟩)))))))))))))))))))))
        (.ok (.inl (Ex.exit 2, ⟨slots 138 [], []⟩)))) (rnd K G) := by kernel_rfl
/-! fasti fastilaw16.TokenPlaces -/
theorem fn9 : FnOk Tryd.prog 9 138 [.tmp 4] (body Tryd.f9) := ⟨Tryd.f9, Tryd.func9, bodySome _ (by kernel_rfl), by kernel_rfl, by kernel_rfl, by kernel_rfl, by kernel_rfl⟩
theorem run9 (F : Nat) (s : List UInt8) (k : Int) : runP (ctx F [(12, .pure S12), (13, .pure S13p), (30, .pure S30)]) L9 138 [.tmp 4] (body Tryd.f9) [.d (.str s), .d (.int .i64 k)] =
    Tr.val
      (.cnd (decide ((↑s.length : Int) > 1900))
        (.ok (PV.d (DV.bool true)))
        (.cnd (decide (k < 0))
          (.ok (PV.d (DV.bool true)))
          (.cnd (decide (k > 50))
            (.ok (PV.d (DV.bool true)))
            (.chk (decide (s.length ≤ big))
            (.chk (decide (0 ≤ 0) && decide (0 ≤ k) && decide (k ≤ 50) && decide (([] : List UInt8) = bl (Int.toNat 0)))
            (.chk (decide ((bl k.toNat).length + s.length ≤ 9223372036854775807))
            (.chk (decide ((bl k.toNat ++ s).length ≤ big))
            (.cnd (!decide ((lexR s).err = (lexR (bl k.toNat ++ s)).err))
              (.ok (PV.d (DV.bool false)))
              (.cnd (!decide ((lexR (bl k.toNat ++ s)).pos = IntKind.i64.wrap ((lexR s).pos + k)))
                (.ok (PV.d (DV.bool false)))
                (.cnd (!decide ((↑(lexT s).length : Int) = (↑(lexT (bl k.toNat ++ s)).length : Int)))
                  (.ok (PV.d (DV.bool false)))
                  (.chk (decide (0 ≤ 0) && decide (0 ≤ (↑(lexT s).length : Int)) && decide ((lexT s).length ≤ big) && decide (s.length ≤ big) &&
            decide (0 ≤ k) &&
          decide (k ≤ 50) &&
        standB s k (List.drop (Int.toNat 0) (lexT s)) (List.drop (Int.toNat 0) (lexT (bl k.toNat ++ s))) 0)
                  (.ok (PV.d (DV.bool true)))))))))))))) := by kernel_rfl
end Go.PS
end

section
namespace Go.PS
open Go.Proofs
set_option linter.unusedSimpArgs false
/-- two loops' summaries -/
theorem lps_two {C : Ctx} {L : Lps} {c1 c2 : Code} {ks1 xs1 ks2 xs2 : List Nat} {T1 T2 : St → Tr (Ex × St)} {l : List Code} (hl : l = [c1, c2])
    (e1 : L (loopId c1) = some (ks1, xs1, T1)) (e2 : L (loopId c2) = some (ks2, xs2, T2))
    (h1 : ∀ (R : Type) st (K : Ex → St → Option R) (r : R), ((T1 st).run fun p => K p.1 p.2) = some r → loopK (pcodeK C L c1) st.heap.length (ks1 ++ temps c1) xs1 C.fuel st K = some r)
    (h2 : ∀ (R : Type) st (K : Ex → St → Option R) (r : R), ((T2 st).run fun p => K p.1 p.2) = some r → loopK (pcodeK C L c2) st.heap.length (ks2 ++ temps c2) xs2 C.fuel st K = some r) : LpsOk C L l := by
  subst hl
  intro c' hc ks' xs' T' hT R st K r hr
  simp only [List.mem_cons, List.mem_singleton, List.not_mem_nil, or_false] at hc
  rcases hc with rfl | rfl
  · rw [e1] at hT
    simp only [Option.some.injEq, Prod.mk.injEq] at hT
    obtain ⟨rfl, rfl, rfl⟩ := hT
    exact h1 R st K r hr
  · rw [e2] at hT
    simp only [Option.some.injEq, Prod.mk.injEq] at hT
    obtain ⟨rfl, rfl, rfl⟩ := hT
    exact h2 R st K r hr
theorem bl_succ (i : Int) (h : 0 ≤ i) : bl i.toNat ++ [32] = bl (i + 1).toNat := by
  unfold bl
  rw [show (i + 1).toNat = i.toNat + 1 by omega, List.replicate_succ']
theorem bl_len (k : Nat) : (bl k).length = k := List.length_replicate
theorem loop9a (F : Nat) {R : Type} (s : List UInt8) (k n e : Int) (xs : List DV) (K : Ex → St → Option R) (hk : k ≤ 50) :
    ∀ (m : Nat) (i : Int), 0 ≤ i → i ≤ k → (k - i).toNat < m →
      loopK (pcodeK (ctx F [(12, .pure S12), (13, .pure S13p), (30, .pure S30)]) noL (lp Tryd.f9 0)) 0 (allBut 138 [0, 1, 5, 6, 7, 8, 9] ++ temps (lp Tryd.f9 0)) (allBut 138 [0, 1, 5, 6, 7, 8]) m
        ⟨slots 138 [(0, .d (.str s)), (1, .d (.int .i64 k)), (5, .d (.slc 4 xs)), (6, .d (.int .i64 n)), (7, .d (.int .i64 e)), (8, .d (.str (bl i.toNat))), (9, .d (.int .i64 i))], []⟩ K =
      K (.exit 0) ⟨slots 138 [(0, .d (.str s)), (1, .d (.int .i64 k)), (5, .d (.slc 4 xs)), (6, .d (.int .i64 n)), (7, .d (.int .i64 e)), (8, .d (.str (bl k.toNat)))], []⟩ := by
  intro m
  induction m with
  | zero => intro i _ _ hm; omega
  | succ m ih =>
    intro i h0 h1 hm
    rw [loopK_succ, round9_0]
    simp only [Tr.run, rnd]
    by_cases hi : i < k
    · have w : IntKind.i64.wrap (i + 1) = i + 1 := wrap64 (by omega) (by omega)
      rw [cnd_p hi, chk_p (by rw [bl_len]; simp only [List.length_cons, List.length_nil]; omega), bl_succ i h0, w, ih (i + 1) (by omega) (by omega) (by omega)]
    · have : i = k := by omega
      rw [cnd_n hi, this]
theorem loop9b (F : Nat) {R : Type} (s : List UInt8) (k : Int) (xs ys : List DV) (K : Ex → St → Option R) (hs : xs.length ≤ 1000000) (hl : s.length ≤ 1000000) (hk0 : 0 ≤ k) (hk : k ≤ 50) :
    ∀ (m : Nat) (i fin : Int), 0 ≤ i → i ≤ xs.length → standB s k (xs.drop i.toNat) (ys.drop i.toNat) fin = true → (xs.length - i).toNat < m →
      loopK (pcodeK (ctx F [(12, .pure S12), (13, .pure S13p), (30, .pure S30)]) noL (lp Tryd.f9 1)) 0 (allBut 138 [0, 1, 5, 10, 13, 14] ++ temps (lp Tryd.f9 1)) (allBut 138 [4]) m
        ⟨slots 138 [(0, .d (.str s)), (1, .d (.int .i64 k)), (5, .d (.slc 4 xs)), (10, .d (.slc 4 ys)), (13, .d (.int .i64 fin)), (14, .d (.int .i64 i))], []⟩ K =
      K (.exit 2) ⟨slots 138 [], []⟩ := by
  intro m
  induction m with
  | zero => intro i _ _ _ _ hm; omega
  | succ m ih =>
    intro i fin h0 h1 hb hm
    rw [loopK_succ, round9_1]
    by_cases hi : i < xs.length
    · have w : IntKind.i64.wrap (i + 1) = i + 1 := wrap64 (by omega) (by omega)
      by_cases hy : i < ys.length
      · rw [drop_gt h0 hi, drop_gt h0 hy] at hb
        simp only [standB, Bool.and_eq_true, decide_eq_true_eq] at hb
        obtain ⟨⟨⟨⟨⟨⟨⟨⟨⟨b1, b2⟩, b3⟩, b4⟩, b5⟩, b6⟩, b7⟩, b8⟩, b9⟩, b10⟩ := hb
        obtain ⟨x1, x2, x3⟩ := okD_p b1
        have y1 := (okD_p b8).1
        have i1 := ih (i + 1) _ (by omega) (by omega) b10 (by omega)
        clear ih b10
        unfold shortD at b2
        simp only [Tr.run, rnd, w, atS_c, atI_c, x1, y1, Nat.zero_add, Nat.reduceAdd]
        have hyl : i.toNat < ys.length := by omega
        generalize gt .nili xs i.toNat = x at *
        generalize gt .nili ys i.toNat = y at *
        rw [show tokText (cI x 0) (cI x 2) (cI x 3) (cS x 1) = txD x from rfl, teD x, if_pos b3]
        have w2 : IntKind.i64.wrap (cI x 3 + ((txD x).length : Int)) = cI x 3 + ((txD x).length : Int) := wrap64 (by omega) (by omega)
        have w3 : IntKind.i64.wrap (cI x 3 + k) = cI x 3 + k := wrap64 (by omega) (by omega)
        rw [w2, w3, cnd_p hi, chk_p h0, chk_p (by omega), chk_tt, b2, decide_eq_true x2, decide_eq_true x3, show (true && true && true) = true from rfl, chk_tt, cnd_f (by rfl), cnd_n (by omega), cnd_n (by omega), cnd_n (by omega),
          chk_p b5, chk_p (by omega), chk_p b6, decide_eq_true b7, show (!true) = false from rfl]
        rw [cnd_f rfl, chk_p hyl, decide_eq_true b9, show (!true) = false from rfl, cnd_f rfl, i1]
        simp only [chk_p h0, chk_p (show i.toNat < xs.length by omega), chk_tt, chk_p (show cI x 3 ≤ cI x 3 + ((txD x).length : Int) by omega)]
      · rw [drop_gt h0 hi, List.drop_eq_nil_of_le (show ys.length ≤ i.toNat by omega)] at hb
        simp [standB] at hb
    · simp only [Tr.run, rnd]
      rw [cnd_n hi]
theorem lps9 (F : Nat) (hF : F = FU) : LpsOk (ctx F [(12, .pure S12), (13, .pure S13p), (30, .pure S30)]) L9 (loopsOf (body Tryd.f9)) := by
  refine lps_two (c1 := lp Tryd.f9 0) (c2 := lp Tryd.f9 1) (ks1 := allBut 138 [0, 1, 5, 6, 7, 8, 9]) (xs1 := allBut 138 [0, 1, 5, 6, 7, 8]) (T1 := T9a) (ks2 := allBut 138 [0, 1, 5, 10, 13, 14]) (xs2 := allBut 138 [4]) (T2 := T9b) (by kernel_rfl) (by kernel_rfl) (by kernel_rfl) (fun R st K r h => ?_) (fun R st K r h => ?_)
  · unfold T9a at h
    cases hs : shape 138 [0, 1, 5, 6, 7, 8, 9] st.slots with
    | false => rw [hs] at h; simp [Tr.run] at h
    | true =>
    rw [hs] at h
    simp only [cond_true] at h
    have he := shape_eq hs
    obtain ⟨sl0, H⟩ := st
    dsimp only at h he ⊢
    split at h
    · rename_i s k xs n e b i g0 g1 g2 g3 g4 g5 g6
      simp only [List.map_cons, List.map_nil, g0, g1, g2, g3, g4, g5, g6] at he
      subst he
      simp only [Tr.run] at h
      cases hc : (decide (0 ≤ i) && decide (i ≤ k) && decide (k ≤ 50) && decide (b = bl i.toNat)) with
      | false => rw [hc] at h; simp at h
      | true =>
      rw [hc] at h
      simp only [Bool.and_eq_true, decide_eq_true_eq] at hc
      obtain ⟨⟨⟨h0, h1⟩, h2⟩, rfl⟩ := hc
      refine (loop9a F s k n e xs K h2 F i h0 h1 (by rw [hF]; unfold FU; omega)).trans ?_
      rw [← h]
      rfl
    · simp [Tr.run] at h
  · unfold T9b at h
    cases hs : shape 138 [0, 1, 5, 10, 13, 14] st.slots with
    | false => rw [hs] at h; simp [Tr.run] at h
    | true =>
    rw [hs] at h
    simp only [cond_true] at h
    have he := shape_eq hs
    obtain ⟨sl0, H⟩ := st
    dsimp only at h he ⊢
    split at h
    · rename_i s k xs ys fin i g0 g1 g2 g3 g4 g5
      simp only [List.map_cons, List.map_nil, g0, g1, g2, g3, g4, g5] at he
      subst he
      simp only [Tr.run] at h
      cases hc : (decide (0 ≤ i) && decide (i ≤ xs.length) && decide (xs.length ≤ big) && decide (s.length ≤ big) && decide (0 ≤ k) && decide (k ≤ 50) && standB s k (xs.drop i.toNat) (ys.drop i.toNat) fin) with
      | false => rw [hc] at h; simp at h
      | true =>
      rw [hc] at h
      simp only [Bool.and_eq_true, decide_eq_true_eq] at hc
      obtain ⟨⟨⟨⟨⟨⟨h0, h1⟩, h2⟩, h3⟩, h4⟩, h5⟩, h6⟩ := hc
      unfold big at h2 h3
      refine (loop9b F s k xs ys K h2 h3 h4 h5 F i fin h0 h1 h6 (by rw [hF]; unfold FU; omega)).trans ?_
      rw [← h]
      rfl
    · simp [Tr.run] at h
end Go.PS
end

section
namespace Go.PS
open Go.Proofs
theorem chr_takeP (s : List UInt8) (p : Nat) (i : Int) (h0 : 0 ≤ i) (h : i < p) : chr (s.take p) i = chr s i := by
  rw [← chr_fold, ← chr_fold]
  have : (s.take p).getD i.toNat 0 = s.getD i.toNat 0 := by
    simp only [List.getD_eq_getElem?_getD]
    rw [List.getElem?_take, if_pos (by omega)]
  rw [this]
theorem runTo_in (s : List UInt8) (c : Bool) : ∀ (m : Nat) (i j : Int), i ≤ j → j < runTo s c m i → isDigit (chr s j) = true ∨ (c = true ∧ smallB (chr s j) = true) := by
  intro m
  induction m with
  | zero => intro i j h1 h2; simp only [runTo] at h2; omega
  | succ m ih =>
    intro i j h1 h2
    simp only [runTo] at h2
    split at h2
    · rename_i hc
      by_cases hj : j = i
      · subst hj; exact hc.2
      · exact ih (i + 1) j (by omega) h2
    · omega
theorem wordTo_of (p : List UInt8) : ∀ (m : Nat) (i : Int), 0 ≤ i → (∀ j : Int, i ≤ j → j < p.length → smallB (chr p j) = true ∨ (j ≠ 0 ∧ isDigit (chr p j) = true)) → wordTo p m i = true := by
  intro m
  induction m with
  | zero => intro i _ _; rfl
  | succ m ih =>
    intro i h0 h
    simp only [wordTo]
    by_cases hi : i < p.length
    · rw [if_pos hi, if_pos (h i (by omega) hi)]
      exact ih (i + 1) (by omega) fun j h1 h2 => h j (by omega) h2
    · rw [if_neg hi]
theorem right_kind {k n : Int} {s : List UInt8} (h : rightR k n s = true) : (k = 1 ∧ s = []) ∨ (k = 2 ∧ n = 0 ∧ s.length ≤ 40 ∧ okR s = true) := by
  simp only [rightR, Bool.or_eq_true, Bool.and_eq_true, decide_eq_true_eq] at h
  grind
theorem quoteR_cons (s : List UInt8) : ∃ l, quoteR s = 34 :: l := ⟨_, rfl⟩
theorem byte_eq {a : UInt8} {n : Nat} (hn : n < 256) (h : (a.toNat : Int) = n) : a = UInt8.ofNat n := by
  apply UInt8.toNat_inj.1
  rw [UInt8.toNat_ofNat']
  omega
/-- a token's text is the piece that it was read off -/
theorem tok_place (q : List UInt8) (hq : 1 ≤ q.length) (hb : q.length ≤ big) (hp : pieceN q ≠ 0) (he : (tokR (q.take (pieceN q).toNat)).err = 0) (a : Int) (ha : 0 ≤ a) :
    tokRight (tokR (q.take (pieceN q).toNat)).kind (tokR (q.take (pieceN q).toNat)).n a (tokR (q.take (pieceN q).toNat)).txt = true ∧
    tokText (tokR (q.take (pieceN q).toNat)).kind (tokR (q.take (pieceN q).toNat)).n a (tokR (q.take (pieceN q).toNat)).txt = q.take (pieceN q).toNat ∧
    -9223372036854775808 ≤ (tokR (q.take (pieceN q).toNat)).n ∧ (tokR (q.take (pieceN q).toNat)).n ≤ 9223372036854775807 ∧ (tokR (q.take (pieceN q).toNat)).txt.length ≤ big := by
  have pR := pieceN_range q hq
  have hlen : (q.take (pieceN q).toNat).length = (pieceN q).toNat := by rw [List.length_take]; omega
  have hbp : (q.take (pieceN q).toNat).length ≤ big := by rw [List.length_take]; omega
  have hcp : ∀ j : Int, 0 ≤ j → j < pieceN q → chr (q.take (pieceN q).toNat) j = chr q j := fun j h0 h1 => chr_takeP q _ j h0 (by omega)
  have key : ∀ T : TR, tokR (q.take (pieceN q).toNat) = T → (tokRight T.kind T.n a T.txt = true ∧ (T.kind = 3 → quoteR T.txt = q.take (pieceN q).toNat) ∧ (T.kind = 2 → Lib.itoa T.n = q.take (pieceN q).toNat) ∧ (T.kind = 4 → 35 :: Lib.itoa T.n = q.take (pieceN q).toNat) ∧ (T.kind ≠ 3 → T.kind ≠ 2 → T.kind ≠ 4 → T.txt = q.take (pieceN q).toNat) ∧ -9223372036854775808 ≤ T.n ∧ T.n ≤ 9223372036854775807 ∧ T.txt.length ≤ big) →
      tokRight (tokR (q.take (pieceN q).toNat)).kind (tokR (q.take (pieceN q).toNat)).n a (tokR (q.take (pieceN q).toNat)).txt = true ∧
      tokText (tokR (q.take (pieceN q).toNat)).kind (tokR (q.take (pieceN q).toNat)).n a (tokR (q.take (pieceN q).toNat)).txt = q.take (pieceN q).toNat ∧
      -9223372036854775808 ≤ (tokR (q.take (pieceN q).toNat)).n ∧ (tokR (q.take (pieceN q).toNat)).n ≤ 9223372036854775807 ∧ (tokR (q.take (pieceN q).toNat)).txt.length ≤ big := by
    intro T e h
    rw [e]
    obtain ⟨h1, h2, h3, h4, h5, h6, h7, h8⟩ := h
    refine ⟨h1, ?_, h6, h7, h8⟩
    rw [tokText_t h1]
    by_cases k3 : T.kind = 3
    · rw [if_pos k3, h2 k3]
    · rw [if_neg k3]
      by_cases k2 : T.kind = 2
      · rw [if_pos k2, h3 k2]
      · rw [if_neg k2]
        by_cases k4 : T.kind = 4
        · rw [if_pos k4, h4 k4]
        · rw [if_neg k4, h5 k3 k2 k4]
  have tp := tok_piece q hq hp
  have ha' : decide (0 ≤ a) = true := decide_eq_true ha
  by_cases g : smallB (chr q 0) = true
  · rw [if_pos g] at tp
    by_cases g2 : 12 < pieceN q
    · rw [if_pos g2] at tp; rw [tp] at he; simp at he
    · rw [if_neg g2] at tp
      refine key _ tp ⟨?_, ?_, ?_, ?_, ?_, ?_, ?_, ?_⟩ <;> dsimp only
      · have hn : pieceN q = runTo q true FU 0 := by unfold pieceN; rw [if_pos g]
        have hw : wordB (q.take (pieceN q).toNat) = true := by
          unfold wordB
          rw [wordTo_of _ FU 0 (by omega) fun j h0 h1 => ?_, decide_eq_true, Bool.and_true]
          · intro e; rw [e] at hlen; simp at hlen; omega
          · rw [hlen] at h1
            rw [hcp j h0 (by omega)]
            by_cases hj : j = 0
            · subst hj; exact .inl g
            · rcases runTo_in q true FU 0 j h0 (by omega) with h | ⟨_, h⟩
              · exact .inr ⟨hj, h⟩
              · exact .inl h
        unfold tokRight rightT
        rw [ha', hw, show decide (((q.take (pieceN q).toNat).length : Int) ≤ 12) = true from decide_eq_true (by omega)]
        rfl
      · intro h; omega
      · intro h; omega
      · intro h; omega
      · intros; trivial
      · omega
      · omega
      · exact hbp
  · rw [if_neg g] at tp
    by_cases g2 : chr q 0 = 34 ∨ chr q 0 = 45 ∨ chr q 0 = 35 ∨ isDigit (chr q 0) = true
    · rw [if_pos g2] at tp
      rw [tp] at he
      have hc0 := hcp 0 (by omega) (by omega)
      unfold numT at tp he
      generalize q.take (pieceN q).toNat = p at *
      by_cases hh : chr p 0 = 35
      · have h1 : hashN p = 1 := by unfold hashN; rw [if_pos hh]
        rw [h1] at tp he
        have hd1 : p.drop (Int.toNat 1) = p.drop 1 := rfl
        rw [hd1] at tp he
        have hn : pieceN q = runTo q false FU 1 := by
          unfold pieceN
          rw [if_neg g, if_neg (by omega), if_pos (by rw [← hc0]; exact .inr (.inl hh))]
        have hdig : ∀ j : Int, 1 ≤ j → j < p.length → isDigit (chr p j) = true := by
          intro j h0 h1
          rw [hcp j (by omega) (by omega)]
          rcases runTo_in q false FU 1 j h0 (by omega) with h | ⟨h, _⟩
          · exact h
          · cases h
        have ep : p = 35 :: p.drop 1 := by
          cases p with
          | nil => simp at hlen; omega
          | cons b l =>
            have : (b.toNat : Int) = (35 : Nat) := hh
            have := byte_eq (by omega) this
            subst this; rfl
        have hld : (p.drop 1).length ≤ big := by rw [List.length_drop]; omega
        have hfirst : ∀ b l, p.drop 1 = b :: l → isDigit (b.toNat : Int) = true := by
          intro b l e
          have h := hdig 1 (by omega) (by rw [ep, e]; simp; omega)
          rw [ep, e] at h
          exact h
        by_cases e5 : (parseR (p.drop 1)).err = 5
        · rw [if_pos e5] at he; simp at he
        rw [if_neg e5] at tp he
        by_cases e0 : (parseR (p.drop 1)).err ≠ 0
        · rw [if_pos e0] at he; simp at he
        rw [if_neg e0] at tp he
        obtain ⟨t1, t2, t3, t4, t5, t6⟩ := text_parse (p.drop 1) hld (by simpa using e0)
        rcases right_kind t1 with ⟨k1, k2⟩ | ⟨k1, k2, k3, k4⟩
        · rw [if_neg (by omega), if_neg (by omega)] at tp he
          by_cases n0 : (parseR (p.drop 1)).n = 0
          · rw [if_pos n0] at he; simp at he
          rw [if_neg n0] at tp
          rw [k1, k2, textV_1] at t2
          have hpos : 0 < (parseR (p.drop 1)).n := by
            by_cases hneg : (parseR (p.drop 1)).n < 0
            · exfalso
              have : Lib.itoa (parseR (p.drop 1)).n = 45 :: Lib.decDigits (parseR (p.drop 1)).n.natAbs := by unfold Lib.itoa; rw [if_pos hneg]
              rw [this] at t2
              have := hfirst _ _ t2.symm
              revert this; decide
            · omega
          refine key _ tp ⟨?_, ?_, ?_, ?_, ?_, ?_, ?_, ?_⟩ <;> dsimp only
          · unfold tokRight rightT
            rw [ha', decide_eq_true hpos]; rfl
          · intro h; omega
          · intro h; omega
          · intro _; rw [t2]; exact ep.symm
          · intro _ _ h; exact absurd rfl h
          · exact t4
          · exact t5
          · simp
        · exfalso
          rw [k1, k2] at t2
          rw [k1, k2] at t1
          rw [textV_2 t1] at t2
          obtain ⟨l, hl⟩ := quoteR_cons (parseR (p.drop 1)).txt
          rw [hl] at t2
          have := hfirst _ _ t2.symm
          revert this; decide
      · have h1 : hashN p = 0 := by unfold hashN; rw [if_neg hh]
        rw [h1] at tp he
        have hd0 : p.drop (Int.toNat 0) = p := rfl
        rw [hd0] at tp he
        by_cases e5 : (parseR p).err = 5
        · rw [if_pos e5] at he; simp at he
        rw [if_neg e5] at tp he
        by_cases e0 : (parseR p).err ≠ 0
        · rw [if_pos e0] at he; simp at he
        rw [if_neg e0] at tp he
        obtain ⟨t1, t2, t3, t4, t5, t6⟩ := text_parse p hbp (by simpa using e0)
        rcases right_kind t1 with ⟨k1, k2⟩ | ⟨k1, k2, k3, k4⟩
        · rw [if_neg (by omega), if_pos rfl] at tp
          rw [k1, k2, textV_1] at t2
          refine key _ tp ⟨?_, ?_, ?_, ?_, ?_, ?_, ?_, ?_⟩ <;> dsimp only
          · unfold tokRight rightT
            rw [ha']; rfl
          · intro h; omega
          · intro _; exact t2
          · intro h; omega
          · intro _ h; exact absurd rfl h
          · exact t4
          · exact t5
          · simp
        · rw [if_pos k1] at tp
          rw [k1, k2] at t1 t2
          rw [textV_2 t1] at t2
          refine key _ tp ⟨?_, ?_, ?_, ?_, ?_, ?_, ?_, ?_⟩ <;> dsimp only
          · unfold tokRight rightT
            rw [ha', t1]
            show (true && (_ || decide ((3 : Int) = 5) && _ && _)) = true
            simp
          · intro _; exact t2
          · intro h; omega
          · intro h; omega
          · intro h; exact absurd rfl h
          · omega
          · omega
          · unfold big; omega
    · rw [if_neg g2] at tp
      have hm : markB (q.take (pieceN q).toNat) = true := by
        have e2 : q.take (2 : Int).toNat = q.take 2 := rfl
        have e1 : q.take (1 : Int).toNat = q.take 1 := rfl
        clear tp he key hcp hbp hlen pR
        unfold pieceN at hp ⊢
        grind
      refine key _ tp ⟨?_, ?_, ?_, ?_, ?_, ?_, ?_, ?_⟩ <;> dsimp only
      · unfold tokRight rightT
        rw [ha', hm]
        simp
      · intro h; omega
      · intro h; omega
      · intro h; omega
      · intros; trivial
      · omega
      · omega
      · exact hbp
end Go.PS
end

section
namespace Go.PS
open Go.Proofs
/-- a token further on -/
def shD (k : Int) : DV → DV
  | .agg [a, b, c, .int kk n] => .agg [a, b, c, .int kk (n + k)]
  | v => v
def shL (k : Int) (r : LR) : LR := ⟨r.toks.map (shD k), r.pos + k, r.err, r.fin + k⟩
theorem chr_bl (s : List UInt8) (k : Nat) (a : Int) (h : 0 ≤ a) : chr (bl k ++ s) (a + k) = chr s a := by
  rw [← chr_fold, ← chr_fold]
  have e : (a + k).toNat = k + a.toNat := by omega
  have : (bl k ++ s).getD (a + k).toNat 0 = s.getD a.toNat 0 := by
    simp only [List.getD_eq_getElem?_getD]
    rw [e, List.getElem?_append_right (by rw [bl_len]; omega), bl_len, Nat.add_sub_cancel_left]
  rw [this]
theorem drop_bl (s : List UInt8) (k : Nat) (a : Int) (h : 0 ≤ a) : (bl k ++ s).drop (a + k).toNat = s.drop a.toNat := by
  have e : (a + k).toNat = (bl k).length + a.toNat := by rw [bl_len]; omega
  rw [e, List.drop_append, List.drop_eq_nil_of_le (by omega), List.nil_append, Nat.add_sub_cancel_left]
theorem tokAt_bl (s : List UInt8) (k : Nat) (a : Int) (h : 0 ≤ a) : tokAt (bl k ++ s) (a + k) = tokAt s a := by
  unfold tokAt; rw [drop_bl s k a h]
theorem lexGo_shift (s : List UInt8) (k : Nat) : ∀ (m m' : Nat) (a : Int) (out : List DV), 0 ≤ a → a ≤ s.length → (s.length - a).toNat < m → (s.length - a).toNat < m' →
    lexGo (bl k ++ s) m' (a + k) (out.map (shD k)) = shL k (lexGo s m a out) := by
  intro m
  induction m with
  | zero => intro m' a out _ _ h; omega
  | succ m ih =>
    intro m' a out h0 h1 h2 h3
    obtain ⟨m'', rfl⟩ : ∃ x, m' = x + 1 := ⟨m' - 1, by omega⟩
    have hl : ((bl k ++ s).length : Int) = s.length + k := by rw [List.length_append, bl_len]; omega
    simp only [lexGo]
    rw [chr_bl s k a h0, drop_bl s k a h0, tokAt_bl s k a h0]
    by_cases c : a < s.length
    · rw [if_pos c, if_pos (show a + (k : Int) < ((bl k ++ s).length : Int) by omega)]
      have pR := pieceN_range (s.drop a.toNat) (by rw [List.length_drop]; omega)
      rw [List.length_drop] at pR
      by_cases b : blankB (chr s a) = true
      · rw [if_pos b, if_pos b, ← ih m'' (a + 1) out (by omega) (by omega) (by omega) (by omega), show a + (k : Int) + 1 = a + 1 + k by omega]
      · rw [if_neg b, if_neg b]
        by_cases p0 : pieceN (s.drop a.toNat) = 0
        · rw [if_pos p0, if_pos p0]; rfl
        · rw [if_neg p0, if_neg p0]
          by_cases e : (tokAt s a).err = 0
          · rw [if_pos e, if_pos e, ← ih m'' (a + pieceN (s.drop a.toNat)) (out ++ [(tokAt s a).dv a]) (by omega) (by omega) (by omega) (by omega), show a + (k : Int) + pieceN (s.drop a.toNat) = a + pieceN (s.drop a.toNat) + k by omega, List.map_append]
            rfl
          · rw [if_neg e, if_neg e]
            unfold shL
            simp only [LR.mk.injEq, true_and]
            omega
    · rw [if_neg c, if_neg (show ¬ a + (k : Int) < ((bl k ++ s).length : Int) by omega), hl]
      rfl
theorem chr_in_bl (s : List UInt8) (k : Nat) (a : Int) (h0 : 0 ≤ a) (h : a < k) : chr (bl k ++ s) a = 32 := by
  rw [← chr_fold]
  have : (bl k ++ s).getD a.toNat 0 = 32 := by
    simp only [List.getD_eq_getElem?_getD]
    rw [List.getElem?_append_left (by rw [bl_len]; omega)]
    unfold bl
    rw [List.getElem?_replicate, if_pos (by omega)]
    rfl
  rw [this]; rfl
theorem lexGo_blanks (s : List UInt8) (k : Nat) : ∀ (j m : Nat) (out : List DV), j ≤ k → lexGo (bl k ++ s) (m + j) ((k : Int) - j) out = lexGo (bl k ++ s) m k out := by
  intro j
  induction j with
  | zero => intro m out _; simp
  | succ j ih =>
    intro m out h
    have hl : ((bl k ++ s).length : Int) = s.length + k := by rw [List.length_append, bl_len]; omega
    rw [show m + (j + 1) = m + j + 1 by omega]
    simp only [lexGo]
    rw [if_pos (by omega), if_pos (by rw [chr_in_bl s k _ (by omega) (by omega)]; decide), ← ih m out (by omega)]
    congr 1
    omega
theorem lexR_shift (s : List UInt8) (k : Nat) (hs : s.length ≤ 1900) (hk : k ≤ 50) : lexR (bl k ++ s) = shL k (lexR s) := by
  have hl : (bl k ++ s).length = k + s.length := by rw [List.length_append, bl_len]
  unfold lexR
  rw [if_neg (by omega), if_neg (by omega)]
  obtain ⟨m, hm⟩ : ∃ m, FU = m + k := ⟨FU - k, by unfold FU; omega⟩
  have hm2 : s.length < m := by unfold FU at hm; omega
  have hm3 : s.length < FU := by omega
  have e := lexGo_blanks s k k m [] (Nat.le_refl _)
  rw [Int.sub_self, ← hm] at e
  rw [e]
  have e2 := lexGo_shift s k FU m 0 [] (by omega) (by omega) (by omega) (by omega)
  rw [Int.zero_add] at e2
  exact e2
theorem lexGo_pos (s : List UInt8) : ∀ (m : Nat) (a : Int) (out : List DV), 0 ≤ a → a ≤ s.length → 0 ≤ (lexGo s m a out).pos ∧ (lexGo s m a out).pos ≤ s.length := by
  intro m
  induction m with
  | zero => intro a out _ _; simp only [lexGo]; omega
  | succ m ih =>
    intro a out h0 h1
    by_cases c : a < s.length
    · have pR := pieceN_range (s.drop a.toNat) (by rw [List.length_drop]; omega)
      rw [List.length_drop] at pR
      have hlen : ((s.drop a.toNat).take (pieceN (s.drop a.toNat)).toNat).length = (pieceN (s.drop a.toNat)).toNat := by rw [List.length_take, List.length_drop]; omega
      have tp := tokR_pos ((s.drop a.toNat).take (pieceN (s.drop a.toNat)).toNat)
      rw [hlen] at tp
      have i1 := ih (a + 1) out
      have i2 := ih (a + pieceN (s.drop a.toNat)) (out ++ [(tokAt s a).dv a])
      clear ih
      simp only [lexGo]
      rw [if_pos c]
      unfold tokAt at *
      grind
    · simp only [lexGo]; rw [if_neg c]; dsimp only; omega
theorem lexR_pos (s : List UInt8) : 0 ≤ (lexR s).pos ∧ (lexR s).pos ≤ s.length := by
  unfold lexR
  split
  · dsimp only; omega
  · exact lexGo_pos s FU 0 [] (by omega) (by omega)
/-- the tokens stand where their texts begin, one behind another -/
theorem lexGo_stand (s : List UInt8) (k : Int) (hb : s.length ≤ big) : ∀ (m : Nat) (a : Int) (out : List DV), 0 ≤ a → a ≤ s.length → (lexGo s m a out).err = 0 →
    ∃ l, (lexGo s m a out).toks = out ++ l ∧ ∀ fin : Int, fin ≤ a → standB s k l (l.map (shD k)) fin = true := by
  intro m
  induction m with
  | zero => intro a out _ _ h; simp [lexGo] at h
  | succ m ih =>
    intro a out h0 h1 he
    by_cases c : a < s.length
    · have pR := pieceN_range (s.drop a.toNat) (by rw [List.length_drop]; omega)
      rw [List.length_drop] at pR
      by_cases b : blankB (chr s a) = true
      · have hg : lexGo s (m + 1) a out = lexGo s m (a + 1) out := by simp only [lexGo, if_pos c, if_pos b]
        rw [hg] at he ⊢
        obtain ⟨l, e1, e2⟩ := ih (a + 1) out (by omega) (by omega) he
        exact ⟨l, e1, fun fin hf => e2 fin (by omega)⟩
      · by_cases p0 : pieceN (s.drop a.toNat) = 0
        · simp only [lexGo, if_pos c, if_neg b, if_pos p0] at he
          simp at he
        · by_cases e : (tokAt s a).err = 0
          · have hg : lexGo s (m + 1) a out = lexGo s m (a + pieceN (s.drop a.toNat)) (out ++ [(tokAt s a).dv a]) := by simp only [lexGo, if_pos c, if_neg b, if_neg p0, if_pos e]
            rw [hg] at he ⊢
            obtain ⟨l, e1, e2⟩ := ih (a + pieceN (s.drop a.toNat)) (out ++ [(tokAt s a).dv a]) (by omega) (by omega) he
            have tp := tok_place (s.drop a.toNat) (by rw [List.length_drop]; omega) (by rw [List.length_drop]; omega) p0 e a h0
            obtain ⟨t1, t2, t3, t4, t5⟩ := tp
            refine ⟨(tokAt s a).dv a :: l, by rw [e1, List.append_assoc]; rfl, fun fin hf => ?_⟩
            have x0 : txD ((tokAt s a).dv a) = (s.drop a.toNat).take (pieceN (s.drop a.toNat)).toNat := t2
            have xl : ((txD ((tokAt s a).dv a)).length : Int) = pieceN (s.drop a.toNat) := by rw [x0, List.length_take, List.length_drop]; omega
            have c3 : cI ((tokAt s a).dv a) 3 = a := rfl
            have ok1 : okD ((tokAt s a).dv a) = true := by
              show (true && decide (-9223372036854775808 ≤ (tokAt s a).n) && decide ((tokAt s a).n ≤ 9223372036854775807)) = true
              rw [decide_eq_true (show -9223372036854775808 ≤ (tokAt s a).n from t3), decide_eq_true (show (tokAt s a).n ≤ 9223372036854775807 from t4)]; rfl
            have ok2 : okD (shD k ((tokAt s a).dv a)) = true := ok1
            have sh1 : shortD ((tokAt s a).dv a) = true := decide_eq_true t5
            have gd : goodD ((tokAt s a).dv a) = true := t1
            have hd : (s.take (a + pieceN (s.drop a.toNat)).toNat).drop a.toNat = (s.drop a.toNat).take (pieceN (s.drop a.toNat)).toNat := by
              rw [List.drop_take]; congr 1; omega
            have ht := e2 (a + pieceN (s.drop a.toNat)) (by omega)
            simp only [List.map_cons, standB]
            rw [c3, xl, ok1, ok2, sh1, gd, x0, hd, ht]
            have c4 : cI (shD k ((tokAt s a).dv a)) 3 = a + k := rfl
            rw [c4, decide_eq_true hf, decide_eq_true h0, decide_eq_true (show a + pieceN (s.drop a.toNat) ≤ (s.length : Int) by omega)]
            simp
          · simp only [lexGo, if_pos c, if_neg b, if_neg p0, if_neg e] at he
            exact absurd he e
    · have hg : lexGo s (m + 1) a out = ⟨out, s.length, 0, s.length⟩ := by simp only [lexGo, if_neg c]
      rw [hg]
      exact ⟨[], by simp, fun _ _ => rfl⟩
theorem lexT_stand (s : List UInt8) (k : Int) (hb : s.length ≤ big) : standB s k (lexT s) ((lexT s).map (shD k)) 0 = true := by
  unfold lexT
  by_cases e : (lexR s).err = 0
  · rw [if_pos e]
    unfold lexR at e ⊢
    by_cases h : 2000 < s.length
    · rw [if_pos h] at e; simp at e
    · rw [if_neg h] at e ⊢
      obtain ⟨l, e1, e2⟩ := lexGo_stand s k hb FU 0 [] (by omega) (by omega) e
      rw [e1, List.nil_append]
      exact e2 0 (by omega)
  · rw [if_neg e]; rfl
theorem lexT_shift (s : List UInt8) (k : Nat) (hs : s.length ≤ 1900) (hk : k ≤ 50) : lexT (bl k ++ s) = (lexT s).map (shD k) := by
  unfold lexT
  rw [lexR_shift s k hs hk]
  show (if (lexR s).err = 0 then (lexR s).toks.map (shD k) else []) = _
  split <;> rfl
theorem lexT_few (s : List UInt8) (h : s.length ≤ big) : (lexT s).length ≤ big := by
  unfold lexT
  split
  · exact lexR_few s h
  · exact Nat.zero_le _
theorem ok9 (W0 : World) (hW : Laid W0) : EKOk Tryd.prog W0 9 (.pure S9) := by
  refine pure_of (tyOk FU [(12, .pure S12), (13, .pure S13p), (30, .pure S30)]) (look_ok (all_cons (ok12 W0 hW) (all_cons (ok13p W0 hW) (all_cons (ok30 W0 hW) all_nil)))) mixed fn9 (lps9 FU rfl) fun args r h => ?_
  unfold S9 at h
  split at h
  · rename_i s k
    refine (run9 FU s k).trans ?_
    rw [← h]
    simp only [Tr.val_ok, Tr.val_cnd, Tr.val_chk]
    by_cases h1 : (s.length : Int) > 1900
    · rw [cnd_p h1]
    rw [cnd_n h1]
    by_cases h2 : k < 0
    · rw [cnd_p h2]
    rw [cnd_n h2]
    by_cases h3 : k > 50
    · rw [cnd_p h3]
    rw [cnd_n h3]
    have hs : s.length ≤ big := by unfold big; omega
    obtain ⟨j, rfl⟩ := Int.eq_ofNat_of_zero_le (show 0 ≤ k by omega)
    have ej : ((j : Int)).toNat = j := rfl
    rw [ej]
    have hl : (bl j ++ s).length = j + s.length := by rw [List.length_append, bl_len]
    have p0 := lexR_pos s
    have w : IntKind.i64.wrap ((lexR s).pos + j) = (lexR s).pos + j := wrap64 (by omega) (by omega)
    have e1 : (lexR (bl j ++ s)).err = (lexR s).err := by rw [lexR_shift s j (by omega) (by omega)]; rfl
    have e2 : (lexR (bl j ++ s)).pos = (lexR s).pos + j := by rw [lexR_shift s j (by omega) (by omega)]; rfl
    have e3 := lexT_shift s j (by omega) (by omega)
    have e4 := lexT_stand s j hs
    have e5 := lexT_few s hs
    rw [chk_p hs, chk_t (by simp only [Bool.and_eq_true, decide_eq_true_eq]; exact ⟨⟨⟨by decide, by omega⟩, by omega⟩, rfl⟩), chk_p (by rw [bl_len]; omega), chk_p (by rw [hl]; unfold big; omega), e1, e2, w, e3, List.length_map]
    rw [show decide ((lexR s).err = (lexR s).err) = true from decide_eq_true rfl, show decide ((lexR s).pos + (j : Int) = (lexR s).pos + (j : Int)) = true from decide_eq_true rfl, show decide (((lexT s).length : Int) = ((lexT s).length : Int)) = true from decide_eq_true rfl]
    show chk _ _ = _
    rw [chk_t]
    have d0 : ∀ l : List DV, l.drop (Int.toNat 0) = l := fun _ => rfl
    rw [d0, d0, e4]
    simp only [Bool.and_eq_true, decide_eq_true_eq, and_true]
    omega
  · simp [Tr.val_no] at h
end Go.PS
end
