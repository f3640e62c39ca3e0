/- A part of the proof of the claim (the pure semantics PS and the contracts of the functions over it). -/
import Derived.Test.YtihpkebhgkfiaaaDoorPlacesA
import Derived.Test.YtihpkebhgkfiaaaDoorVaC
import Derived.Test.YtihpkebhgkfiaaaDoorVaB
set_option linter.all false
section
namespace Go.PS
open Go.Proofs
theorem loop70 (F : Nat) {R : Type} (s : List UInt8) (c : Bool) (K : Ex → St → Option R) (hs : s.length ≤ 1000000) :
    ∀ (m : Nat) (n : Int), 0 ≤ n → n ≤ s.length → (s.length - n).toNat < m →
      loopK (pcodeK (ctx F [(69, .pure S69), (71, .pure S71)]) noL (lp Tryd.f70 0)) 0 (allBut 29 [0, 1, 2] ++ temps (lp Tryd.f70 0)) (allBut 29 [0, 1, 2]) m
        ⟨slots 29 [(0, .d (.str s)), (1, .d (.int .i64 n)), (2, .d (.bool c))], []⟩ K =
      K (.exit 0) ⟨slots 29 [(0, .d (.str s)), (1, .d (.int .i64 (runTo s c m n))), (2, .d (.bool c))], []⟩ := by
  intro m
  induction m with
  | zero => intro n _ _ hm; omega
  | succ m ih =>
    intro n h0 h1 hm
    rw [loopK_succ, round70_0]
    have w : n < s.length → IntKind.i64.wrap (n + 1) = n + 1 := fun _ => wrap64 (by omega) (by omega)
    have ih1 := ih (n + 1)
    clear ih
    simp only [Tr.run, rnd, chr_fold, runTo, cnd_if, chk_if, Bool.and_eq_true, decide_eq_true_eq]
    grind
theorem lps70 (F : Nat) (hF : F = FU) : LpsOk (ctx F [(69, .pure S69), (71, .pure S71)]) L70 (loopsOf (body Tryd.f70)) := by
  refine lps_one (c := lp Tryd.f70 0) rfl (by kernel_rfl) fun R st K r h => ?_
  unfold T70 at h
  cases hs : shape 29 [0, 1, 2] st.slots with
  | false => rw [hs] at h; simp [Tr.run] at h
  | true =>
  rw [hs] at h
  simp only [cond_true] at h
  have he := shape_eq hs
  obtain ⟨sl0, H⟩ := st
  dsimp only at h he ⊢
  split at h
  · rename_i s n c g0 g1 g2
    simp only [List.map_cons, List.map_nil, g0, g1, g2] at he
    subst he
    simp only [Tr.run] at h
    cases hc : (decide (0 ≤ n) && decide (n ≤ s.length) && decide (s.length ≤ big)) with
    | false => rw [hc] at h; simp at h
    | true =>
    rw [hc] at h
    simp only [Bool.and_eq_true, decide_eq_true_eq] at hc
    obtain ⟨⟨h0, h1⟩, h2⟩ := hc
    unfold big at h2
    refine (loop70 F s c K h2 F n h0 h1 (by rw [hF]; unfold FU; omega)).trans ?_
    rw [← h, hF]
    rfl
  · simp [Tr.run] at h
theorem loop72 (F : Nat) {R : Type} (s : List UInt8) (a : Int) (K : Ex → St → Option R) (hs : s.length ≤ 1000000) :
    ∀ (m : Nat) (n : Int), 0 ≤ n → n ≤ s.length + 2 → (s.length + 2 - n).toNat < m →
      loopK (pcodeK (ctx F []) noL (lp Tryd.f72 0)) 0 (allBut 28 [0, 1, 5] ++ temps (lp Tryd.f72 0)) (allBut 28 [0, 1, 4]) m
        ⟨slots 28 [(0, .d (.str s)), (1, .d (.int .i64 a)), (5, .d (.int .i64 n))], []⟩ K =
      PS.cnd (closeB s m n) (K .ret ⟨slots 28 [(0, .d (.str s)), (1, .d (.int .i64 a)), (4, .d (.int .i64 (closeTo s m n)))], []⟩)
        (K (.exit 0) ⟨slots 28 [(0, .d (.str s)), (1, .d (.int .i64 a))], []⟩) := by
  intro m
  induction m with
  | zero => intro n _ _ hm; omega
  | succ m ih =>
    intro n h0 h1 hm
    rw [loopK_succ, round72_0]
    have w : n < s.length → IntKind.i64.wrap (n + 1) = n + 1 := fun _ => wrap64 (by omega) (by omega)
    have w2 : n < s.length → IntKind.i64.wrap (n + 1 + 1) = n + 2 := fun _ => (wrap64 (x := n + 1 + 1) (by omega) (by omega)).trans (by omega)
    simp only [Tr.run, rnd, chr_fold, closeB, closeTo, cnd_if, chk_if, Bool.and_eq_true, decide_eq_true_eq]
    have ih1 := ih (n + 1)
    have ih2 := ih (n + 2)
    clear ih
    simp only [cnd_if] at ih1 ih2
    grind
theorem lps72 (F : Nat) (hF : F = FU) : LpsOk (ctx F []) L72 (loopsOf (body Tryd.f72)) := by
  refine lps_one (c := lp Tryd.f72 0) rfl (by kernel_rfl) fun R st K r h => ?_
  unfold T72 at h
  cases hs : shape 28 [0, 1, 5] st.slots with
  | false => rw [hs] at h; simp [Tr.run] at h
  | true =>
  rw [hs] at h
  simp only [cond_true] at h
  have he := shape_eq hs
  obtain ⟨sl0, H⟩ := st
  dsimp only at h he ⊢
  split at h
  · rename_i s a n g0 g1 g2
    simp only [List.map_cons, List.map_nil, g0, g1, g2] at he
    subst he
    simp only [Tr.run] at h
    cases hc : (decide (0 ≤ n) && decide (n ≤ s.length + 2) && decide (s.length ≤ big)) with
    | false => rw [hc] at h; simp at h
    | true =>
    rw [hc] at h
    simp only [Bool.and_eq_true, decide_eq_true_eq] at hc
    obtain ⟨⟨h0, h1⟩, h2⟩ := hc
    unfold big at h2
    refine (loop72 F s a K h2 F n h0 h1 (by rw [hF]; unfold FU; omega)).trans ?_
    rw [← h, hF]
    rfl
  · simp [Tr.run] at h
theorem ok70 (W0 : World) : EKOk Tryd.prog W0 70 (.pure S70) := by
  refine pure_of (tyOk FU [(69, .pure S69), (71, .pure S71)]) (look_ok (all_cons (ok69 W0) (all_cons (ok71 W0) all_nil))) mixed fn70 (lps70 FU rfl) fun args r h => ?_
  unfold S70 at h
  split at h
  · rename_i s n c
    exact (run70 FU s n c).trans h
  · simp [Tr.val_no] at h
theorem ok72 (W0 : World) : EKOk Tryd.prog W0 72 (.pure S72) := by
  refine pure_of (tyOk FU []) (look_ok all_nil) mixed fn72 (lps72 FU rfl) fun args r h => ?_
  unfold S72 at h
  split at h
  · rename_i s a
    refine (run72 FU s a).trans ?_
    rw [← h]
    simp only [Tr.val_chk, chk_some, Bool.and_eq_true, decide_eq_true_eq] at h
    obtain ⟨⟨⟨h0, h1⟩, h2⟩, _⟩ := h
    have hb : s.length ≤ 1000000 := h2
    have w : IntKind.i64.wrap (a + 1) = a + 1 := wrap64 (by omega) (by omega)
    have hc := closeTo_end s FU (a + 1)
    simp only [Tr.val_ok, Tr.val_cnd, Tr.val_chk, w, cnd_if, chk_if, Bool.and_eq_true, decide_eq_true_eq]
    grind
  · simp [Tr.val_no] at h
theorem ok40 (W0 : World) : EKOk Tryd.prog W0 40 (.pure S40) := by
  refine pure_of (tyOk 0 [(69, .pure S69), (70, .pure S70), (71, .pure S71), (72, .pure S72), (73, .pure S93)]) (look_ok (all_cons (ok69 W0) (all_cons (ok70 W0) (all_cons (ok71 W0) (all_cons (ok72 W0) (all_cons (ok73 W0) all_nil)))))) mixed fn40 (lpsOk_no _ _) fun args r h => ?_
  unfold S40 at h
  split at h
  · rename_i s a
    refine (run40 0 s a).trans ?_
    rw [← h]
    simp only [Tr.val_chk, chk_some, Bool.and_eq_true, decide_eq_true_eq] at h
    obtain ⟨⟨⟨h0, h1⟩, h2⟩, _⟩ := h
    have hb : s.length ≤ 1000000 := h2
    have w : IntKind.i64.wrap (a + 1) = a + 1 := wrap64 (by omega) (by omega)
    have w2 : IntKind.i64.wrap (a + 2) = a + 2 := wrap64 (by omega) (by omega)
    have hk : (a.toNat : Int) = a := by omega
    have e0 : chr (s.drop a.toNat) 0 = chr s a := by rw [chr_drop _ _ _ (by omega), hk, Int.add_zero]
    have e1 := runTo_drop s a.toNat (by omega) true FU 0 (by omega)
    have e2 := runTo_drop s a.toNat (by omega) false FU 1 (by omega)
    have e3 := closeTo_drop s a.toNat (by omega) FU 1 (by omega)
    rw [hk] at e1 e2 e3
    rw [Int.add_zero] at e1
    have hd : chr s a = 34 → isDigit (chr s a) = false := fun h => by rw [h]; rfl
    have e4 : List.drop a.toNat (List.take (a + 2).toNat s) = (s.drop a.toNat).take 2 := by rw [List.drop_take]; congr 1; omega
    have e5 : List.drop a.toNat (List.take (a + 1).toNat s) = (s.drop a.toNat).take 1 := by rw [List.drop_take]; congr 1; omega
    simp only [Tr.val_ok, Tr.val_cnd, Tr.val_chk, chr_fold, w, w2, e4, e5, cnd_if, chk_if, Bool.and_eq_true, decide_eq_true_eq, pieceN, e0, e1, e2, e3, List.length_drop]
    grind
  · simp [Tr.val_no] at h
end Go.PS
end

section
namespace Go.PS
open Go.Proofs
theorem failN_range (s : List UInt8) (n : Int) (h : 0 ≤ n) : 0 ≤ failN s n ∧ failN s n ≤ s.length := by unfold failN; grind
theorem width_range' (s : List UInt8) (a : Int) (h0 : 0 ≤ a) (h : a < s.length) : 0 ≤ width s a ∧ a + width s a ≤ s.length := by
  obtain ⟨k, rfl⟩ := Int.eq_ofNat_of_zero_le h0
  rcases dec_cases s k (by omega) with ⟨_, _, hw⟩ | ⟨_, _, hw⟩ | ⟨_, _, _, h3, hw⟩ <;> omega
theorem textGo_pos (s : List UInt8) : ∀ (m : Nat) (a : Int) (out : List UInt8), 0 ≤ a → a ≤ s.length → 0 ≤ (textGo s m a out).pos ∧ (textGo s m a out).pos ≤ s.length := by
  intro m
  induction m with
  | zero => intro a out _ _; simp only [textGo]; omega
  | succ m ih =>
    intro a out h0 h1
    by_cases hk : a < s.length
    · have w := width_range' s a h0 hk
      have e := escTo_range s (a + 1) (by omega)
      have f := failN_range s (escTo s (a + 1)) (by omega)
      have i1 := ih (escTo s (a + 1)) (out ++ [UInt8.ofNat (escV s (a + 1)).toNat])
      have i2 := ih (a + width s a) (out ++ (s.drop a.toNat).take (width s a).toNat)
      clear ih
      simp only [textGo]
      grind
    · simp only [textGo, if_neg hk]; omega
theorem digTo_ge (s : List UInt8) : ∀ (m : Nat) (i : Int), i ≤ digTo s m i := by
  intro m
  induction m with
  | zero => intro i; exact Int.le_refl _
  | succ m ih => intro i; have := ih (i + 1); clear ih; simp only [digTo]; grind
theorem numR_pos (s : List UInt8) (h : 1 ≤ s.length) : 0 ≤ (numR s).pos ∧ (numR s).pos ≤ s.length := by
  have f := failN_range s (numAt s)
  have g : 0 ≤ numAt s ∧ numAt s ≤ 1 := by unfold numAt; grind
  have d := digTo_le s FU (numAt s + 1)
  have d2 := digTo_ge s FU (numAt s + 1)
  unfold numR
  grind
theorem parseR_pos (s : List UInt8) : 0 ≤ (parseR s).pos ∧ (parseR s).pos ≤ s.length := by
  have a := textGo_pos s FU 1 []
  have b := numR_pos s
  unfold parseR textR
  grind

theorem tk1_iff (s : List UInt8) (c : UInt8) : s.take 1 = [c] ↔ 1 ≤ s.length ∧ chr s 0 = (c.toNat : Int) := by
  cases s with
  | nil => simp
  | cons b l =>
    have e : chr (b :: l) 0 = (b.toNat : Int) := rfl
    rw [e]
    constructor
    · intro h; simp at h; subst h; simp
    · rintro ⟨_, h⟩
      have : b = c := UInt8.toNat_inj.1 (by omega)
      subst this; rfl

theorem ok68 (W0 : World) (hW : Laid W0) : EKOk Tryd.prog W0 68 (.pure S68) := by
  refine pure_of (tyOk 0 [(17, .pure S17), (96, .pure S107)]) (look_ok (all_cons (ok17 W0 hW) (all_cons (ok96 W0) all_nil))) mixed fn68 (lpsOk_no _ _) fun args r h => ?_
  unfold S68 at h
  split at h
  · rename_i s
    refine (run68 0 s).trans ?_
    rw [← h]
    simp only [Tr.val_chk, chk_some, Bool.and_eq_true, decide_eq_true_eq] at h
    obtain ⟨⟨h0, h1⟩, _⟩ := h
    have hb : s.length ≤ 1000000 := h1
    have hh := tk1_iff s 35
    have p0 := parseR_pos s
    have p1 := parseR_pos (s.drop 1)
    rw [List.length_drop] at p1
    have w0 : IntKind.i64.wrap (IntKind.i64.wrap ((parseR s).pos + (↑s.length : Int)) - (↑s.length : Int)) = (parseR s).pos := by
      rw [wrap64 (x := (parseR s).pos + (↑s.length : Int)) (by omega) (by omega), wrap64 (by omega) (by omega)]; omega
    have w1 : IntKind.i64.wrap (IntKind.i64.wrap ((parseR (s.drop 1)).pos + (↑s.length : Int)) - ((s.length - 1 : Nat) : Int)) = (parseR (s.drop 1)).pos + 1 := by
      rw [wrap64 (x := (parseR (s.drop 1)).pos + (↑s.length : Int)) (by omega) (by omega), wrap64 (by omega) (by omega)]; omega
    have d1 : s.drop (1 : Int).toNat = s.drop 1 := rfl
    have d0 : s.drop (0 : Int).toNat = s := rfl
    simp only [Tr.val_ok, Tr.val_cnd, Tr.val_chk, List.length_cons, List.length_nil, Nat.zero_add, List.length_drop, w0, w1, cnd_if, chk_if, Bool.and_eq_true, decide_eq_true_eq, Bool.not_eq_true', decide_eq_false_iff_not, TR.pv]
    unfold numT hashN
    by_cases g : chr s 0 = 35
    · simp only [if_pos g, d1]
      grind
    · simp only [if_neg g, d0]
      grind
  · simp [Tr.val_no] at h

theorem ok41 (W0 : World) : EKOk Tryd.prog W0 41 (.pure S41) := by
  refine pure_of (tyOk 0 [(18, .pure S17), (69, .pure S69), (73, .pure S93)]) (look_ok (all_cons (ok18 W0) (all_cons (ok69 W0) (all_cons (ok73 W0) all_nil)))) mixed fn41 (lpsOk_no _ _) fun args r h => ?_
  unfold S41 at h
  split at h
  · rename_i s
    refine (run41 0 s).trans ?_
    rw [← h]
    simp only [Tr.val_chk, chk_some, Bool.and_eq_true, decide_eq_true_eq] at h
    obtain ⟨⟨h0, h1⟩, _⟩ := h
    have hb : s.length ≤ 1000000 := h1
    have p0 := parseR_pos s
    have p1 := parseR_pos (s.drop 1)
    rw [List.length_drop] at p1
    have d1 : s.drop (1 : Int).toNat = s.drop 1 := rfl
    have d0 : s.drop (0 : Int).toNat = s := rfl
    have t0 : List.take ((s.length : Nat) : Int).toNat s = s := by simp
    have w0 : IntKind.i64.wrap (0 + (parseR s).pos) = (parseR s).pos := (wrap64 (by omega) (by omega)).trans (by omega)
    have w1 : IntKind.i64.wrap (1 + (parseR (s.drop 1)).pos) = (parseR (s.drop 1)).pos + 1 := (wrap64 (by omega) (by omega)).trans (by omega)
    have z0 : Int.toNat 0 < s.length := h0
    simp only [Tr.val_ok, Tr.val_cnd, Tr.val_chk, chr_fold, List.length_drop, t0, d0, d1, w0, w1, cnd_if, chk_if, Bool.and_eq_true, decide_eq_true_eq, Bool.not_eq_true', decide_eq_false_iff_not, TR.pv]
    unfold tokR numT hashN
    by_cases g : chr s 0 = 35
    · simp only [if_pos g, d1]
      grind
    · simp only [if_neg g, d0]
      grind
  · simp [Tr.val_no] at h
end Go.PS
end

section
namespace Go.PS
open Go.Proofs
theorem mark_first (s : List UInt8) (n : Nat) (h : markB (s.take n) = true) : smallB (chr s 0) = false ∧ chr s 0 ≠ 34 ∧ chr s 0 ≠ 45 ∧ chr s 0 ≠ 35 ∧ isDigit (chr s 0) = false ∧ 1 ≤ n ∧ 1 ≤ s.length := by
  cases s with
  | nil => simp [markB] at h
  | cons b l =>
    cases n with
    | zero => simp [markB] at h
    | succ n =>
    have e : chr (b :: l) 0 = (b.toNat : Int) := rfl
    rw [e]
    unfold markB at h
    simp only [List.take_succ_cons, Bool.or_eq_true, decide_eq_true_eq, List.cons.injEq] at h
    rcases h with ((((((((h | h) | h) | h) | h) | h) | h) | h) | h) | h <;> (obtain ⟨rfl, _⟩ := h; simp [smallB, isDigit])
theorem small_take (s : List UInt8) (n : Int) (h : 1 ≤ n) : chr (s.take n.toNat) 0 = chr s 0 := by
  unfold chr
  obtain ⟨k, hk⟩ : ∃ k, n.toNat = k + 1 := ⟨n.toNat - 1, by omega⟩
  rw [hk]
  cases s <;> rfl

theorem tok_piece (s : List UInt8) (h0 : 1 ≤ s.length) (hp : pieceN s ≠ 0) : tokR (s.take (pieceN s).toNat) = if smallB (chr s 0) = true then (if 12 < pieceN s then ⟨0, 0, [], 0, 5⟩ else ⟨1, 0, s.take (pieceN s).toNat, 0, 0⟩) else if chr s 0 = 34 ∨ chr s 0 = 45 ∨ chr s 0 = 35 ∨ isDigit (chr s 0) = true then numT (s.take (pieceN s).toNat) else ⟨5, 0, s.take (pieceN s).toNat, 0, 0⟩ := by
  have pR := pieceN_range s h0
  have l1 : ((s.take (pieceN s).toNat).length : Int) = pieceN s := by rw [List.length_take]; omega
  have mm := mark_first s (pieceN s).toNat
  unfold tokR
  rw [small_take _ _ (by omega)]
  by_cases g : smallB (chr s 0) = true
  · rw [if_pos g, if_pos g]
    grind
  · rw [if_neg g, if_neg g]
    by_cases q : chr s 0 = 34 ∨ chr s 0 = 45 ∨ chr s 0 = 35 ∨ isDigit (chr s 0) = true
    · rw [if_pos q]
      have : ¬ markB (s.take (pieceN s).toNat) = true := by
        intro h; obtain ⟨_, m1, m2, m3, m4, _⟩ := mm h
        rcases q with q | q | q | q
        · exact m1 q
        · exact m2 q
        · exact m3 q
        · rw [q] at m4; simp at m4
      rw [if_neg this]
    · rw [if_neg q]
      have e2 : s.take (2 : Int).toNat = s.take 2 := rfl
      have e1 : s.take (1 : Int).toNat = s.take 1 := rfl
      have : markB (s.take (pieceN s).toNat) = true := by
        clear mm l1 pR
        unfold pieceN at hp ⊢
        grind
      rw [if_pos this]

theorem ok39 (W0 : World) (hW : Laid W0) : EKOk Tryd.prog W0 39 (.eff (frameT S39)) := by
  refine eff_of (tyOk 0 [(38, .eff (frameT S38)), (65, .eff (frameT S65)), (66, .eff (frameT S66)), (67, .eff (frameT S67)), (68, .pure S68)]) (look_ok (all_cons (ok38 W0) (all_cons (ok65 W0) (all_cons (ok66 W0) (all_cons (ok67 W0) (all_cons (ok68 W0 hW) all_nil)))))) mixed fn39 (lpsOk_no _ _) fun args H r h => ?_
  unfold S39 at h
  split at h
  · rename_i vs a
    refine (run39 0 vs a).trans ?_
    rw [← h]
    simp only [Tr.val_chk, chk_some, Bool.and_eq_true, decide_eq_true_eq] at h
    obtain ⟨⟨⟨⟨h0, h1⟩, h2⟩, h3⟩, h4⟩ := h.1
    clear h
    have hb : vs.length ≤ 1000000 := h1
    have hb' : a ≤ 1000000 := h4
    have hl := bytesOf_length (allB_U8 h2)
    have hf : fits [DV.int IntKind.u8 0] (gt DV.nili vs (Int.toNat 0)).cells = true := fits_byte h2 (i := 0) (by omega) (by omega)
    have ha : atI vs (Int.toNat 0) 0 = chr (bytesOf vs) 0 := atI_chr h2 (i := 0) (by omega) (by omega)
    generalize hs : bytesOf vs = s at hl ha ⊢
    have z0 : Int.toNat 0 < vs.length := h0
    have z1 : 0 < vs.length := h0
    have a1 := runTo_range s true FU 0 (by omega)
    have a2 := runTo_range s false FU 1 (by omega)
    have a3 := closeTo_range s FU 1 (by omega) (by omega)
    have pr : smallB (chr s 0) = true → 1 ≤ runTo s true FU 0 := by
      intro h
      have e : runTo s true FU 0 = runTo s true (FU - 1) 1 := by
        have e1 : FU = (FU - 1) + 1 := rfl
        conv => lhs; rw [e1]
        simp only [runTo]
        rw [if_pos ⟨by omega, Or.inr ⟨trivial, h⟩⟩]; rfl
      rw [e]; exact (runTo_range s true _ 1 (by omega)).1
    have ln : ∀ n : Int, 1 ≤ n → n ≤ vs.length → ((s.take n.toNat).length : Int) = n := by intro n h1 h2; rw [List.length_take]; omega
    have sm : smallB (chr s 0) = true ↔ 97 ≤ chr s 0 ∧ chr s 0 ≤ 122 := by unfold smallB; simp
    have dg := isDigit_iff (chr s 0)
    have pR := pieceN_range s (by omega)
    have hT := tok_piece s (by omega)
    have ln0 := ln (runTo s true FU 0)
    have ln1 := ln (runTo s false FU 1)
    have ln2 := ln (closeTo s FU 1)
    have hM : marksN s = if 2 ≤ s.length ∧ markB (s.take 2) = true then 2 else if markB (s.take 1) = true then 1 else 0 := rfl
    have hk1 : (decide (1 ≤ vs.length) && decide (vs.length ≤ big) && allB vs && decide (0 ≤ a) && decide (a ≤ big)) = true := by simp [h0, h1, h2, h3, h4]
    have hPm : ¬ smallB (chr s 0) = true → ¬ chr s 0 = 34 → ¬ (chr s 0 = 45 ∨ chr s 0 = 35 ∨ isDigit (chr s 0) = true) → pieceN s = marksN s := by
      intro a b c; unfold pieceN; rw [if_neg a, if_neg b, if_neg c]; rfl
    have hP1 : smallB (chr s 0) = true → pieceN s = runTo s true FU 0 := by intro a; unfold pieceN; rw [if_pos a]
    have hP2 : chr s 0 = 34 → pieceN s = closeTo s FU 1 := by intro a; unfold pieceN; rw [if_neg (by grind), if_pos a]
    have hP3 : (chr s 0 = 45 ∨ chr s 0 = 35 ∨ isDigit (chr s 0) = true) → pieceN s = runTo s false FU 1 := by intro a; unfold pieceN; rw [if_neg (by grind), if_neg (by grind), if_pos a]
    simp only [Tr.val_ok, Tr.val_cnd, Tr.val_chk, ha]
    clear hM ln hs
    rw [chk_t hk1, chk_p z0, chk_t hf]
    simp only [cnd_if, chk_if, Bool.and_eq_true, decide_eq_true_eq, h1, h2, h3, h4, TR.pv]
    by_cases c1 : smallB (chr s 0) = true
    · have c2 := sm.1 c1
      rw [hP1 c1] at hT ⊢
      grind
    · by_cases c2 : chr s 0 = 34
      · rw [hP2 c2] at hT ⊢
        grind
      · by_cases c3 : (chr s 0 = 45 ∨ chr s 0 = 35 ∨ isDigit (chr s 0) = true)
        · rw [hP3 c3] at hT ⊢
          grind
        · rw [hPm c1 c2 c3] at hT ⊢
          grind
  · simp [Tr.val_no] at h
end Go.PS
end

section
namespace Go.PS
open Go.Proofs
def blankB (b : Int) : Bool := decide (b = 9) || decide (b = 10) || decide (b = 32)
/-- what reading a text comes to: the tokens, the place, the error; and where the reader stands -/
structure LR where
  toks : List DV
  pos : Int
  err : Int
  fin : Int
def TR.dv (t : TR) (a : Int) : DV := .agg [.int .i64 t.kind, .str t.txt, .int .i64 t.n, .int .i64 a]
/-- the token of the piece at a place -/
def tokAt (s : List UInt8) (a : Int) : TR := tokR ((s.drop a.toNat).take (pieceN (s.drop a.toNat)).toNat)
def lexGo (s : List UInt8) : Nat → Int → List DV → LR
  | 0, a, out => ⟨out, 0, 5, a⟩
  | m + 1, a, out =>
    if a < s.length then
      (if blankB (chr s a) = true then lexGo s m (a + 1) out
      else if pieceN (s.drop a.toNat) = 0 then ⟨out, a, 11, a⟩
      else if (tokAt s a).err = 0 then lexGo s m (a + pieceN (s.drop a.toNat)) (out ++ [(tokAt s a).dv a])
      else ⟨out, a + (tokAt s a).pos, (tokAt s a).err, a + pieceN (s.drop a.toNat)⟩)
    else ⟨out, s.length, 0, s.length⟩
def lexR (s : List UInt8) : LR := if 2000 < s.length then ⟨[], 0, 5, 0⟩ else lexGo s FU 0 []
def S13 : List PV → Tr PV
  | [.d (.str s)] => .chk (decide (s.length ≤ big)) (.cnd (decide ((lexR s).err = 0))
      (.ok (.tup [.d (.slc 4 (lexR s).toks), .d (.int .i64 (lexR s).pos), .d (.int .i64 (lexR s).err)]))
      (.ok (.tup [.own 4 [], .d (.int .i64 (lexR s).pos), .d (.int .i64 (lexR s).err)])))
  | _ => .no
def T13 (st : St) : Tr (Ex × St) :=
  bif shape 59 [0, 5, 6] st.slots then
    match gt .undef st.slots 0, gt .undef st.slots 5, gt .undef st.slots 6, st.heap with
    | .d (.str s), .ptr 0 0, .own 4 out, [.cells [.d (.slc 1 vs), .d (.int .i64 a)]] =>
      .chk (decide (0 ≤ a) && decide (a ≤ s.length) && decide (s.length ≤ 2000) && allB vs && decide (bytesOf vs = s.drop a.toNat) && decide (out.length ≤ a))
       (.cnd (decide ((lexGo s FU a out).err = 0))
        (.ok (.exit 0, ⟨slots 59 [(0, .d (.str s)), (6, .own 4 (lexGo s FU a out).toks)], [.cells [.d (.slc 1 (bytesDV (s.drop (lexGo s FU a out).fin.toNat))), .d (.int .i64 (lexGo s FU a out).fin)]]⟩))
        (.ok (.ret, ⟨slots 59 [(0, .d (.str s)), (2, .own 4 []), (3, .d (.int .i64 (lexGo s FU a out).pos)), (4, .d (.int .i64 (lexGo s FU a out).err)), (6, .own 4 (lexGo s FU a out).toks)], [.cells [.d (.slc 1 (bytesDV (s.drop (lexGo s FU a out).fin.toNat))), .d (.int .i64 (lexGo s FU a out).fin)]]⟩)))
    | _, _, _, _ => .no
  else .no
def L13 : Lps := fun i => bif Nat.beq i 5 then some (allBut 59 [0, 5, 6], allBut 59 [0, 2, 3, 4, 6], T13) else none
def T14 (st : St) : Tr (Ex × St) :=
  bif shape 68 [0, 5, 6] st.slots then
    match gt .undef st.slots 0, gt .undef st.slots 5, gt .undef st.slots 6, st.heap with
    | .d (.str s), .own 4 out, .d (.int .i64 a), [] =>
      .chk (decide (0 ≤ a) && decide (a ≤ s.length) && decide (s.length ≤ 2000) && decide (out.length ≤ a))
       (.cnd (decide ((lexGo s FU a out).err = 0))
        (.ok (.exit 0, ⟨slots 68 [(0, .d (.str s)), (5, .own 4 (lexGo s FU a out).toks)], []⟩))
        (.ok (.ret, ⟨slots 68 [(0, .d (.str s)), (2, .own 4 []), (3, .d (.int .i64 (lexGo s FU a out).pos)), (4, .d (.int .i64 (lexGo s FU a out).err)), (5, .own 4 (lexGo s FU a out).toks)], []⟩)))
    | _, _, _, _ => .no
  else .no
def L14 : Lps := fun i => bif Nat.beq i 5 then some (allBut 68 [0, 5, 6], allBut 68 [0, 2, 3, 4, 5], T14) else none
end Go.PS
end

section
namespace Go.PS
open Go.Proofs
set_option maxRecDepth 100000
theorem round13_0 (F : Nat) {R : Type} (s : List UInt8) (vs out : List DV) (a : Int) (K : Ex → St → Option R) (G : St → Option R) : roundK (pcodeK (ctx F [(37, .pure S37), (38, .eff (frameT S38)), (39, .eff (frameT S39))]) noL (lp Tryd.f13 0)) 1 (allBut 59 [0, 5, 6] ++ temps (lp Tryd.f13 0)) (allBut 59 [0, 2, 3, 4, 6]) ⟨slots 59 [(0, .d (.str s)), (5, .ptr 0 0), (6, .own 4 out)], [.cells [.d (.slc 1 vs), .d (.int .i64 a)]]⟩ K G =
    Tr.run
      (.cnd (decide ((↑vs.length : Int) > 0))
        (.chk (decide (Int.toNat 0 < vs.length))
        (.chk (fits [.int .u8 0]
        (gt DV.nili vs (Int.toNat 0)).cells)
        (.cnd (decide (idxB ([32, 9, 10] : List UInt8) (atI vs (Int.toNat 0) 0) ≥ 0))
          (.chk (decide (0 ≤ 1) && decide (1 ≤ (↑vs.length : Int)) && decide (vs.length ≤ big) && allB vs && decide (0 ≤ a) &&
        decide (a ≤ (↑big : Int)))
          (.ok (.inr ⟨slots 59 [(0, PV.d (DV.str s)), (5, PV.ptr 0 0), (6, PV.own 4 out)], [PObj.cells [PV.d (DV.slc 1 (List.drop (Int.toNat 1) vs)), PV.d (DV.int IntKind.i64 (a + 1))]]⟩)))
          (.chk (decide (1 ≤ vs.length) && decide (vs.length ≤ big) && allB vs && decide (0 ≤ a) && decide (a ≤ (↑big : Int)))
          (.cnd (decide (pieceN (bytesOf vs) = 0))
            (.ok (.inl (Ex.ret, ⟨slots 59 [(0, PV.d (DV.str s)), (2, PV.own 4 []), (3, PV.d (DV.int IntKind.i64 (IntKind.i64.wrap (a + 0)))), (4, PV.d (DV.int IntKind.i64 (11))), (6, PV.own 4 out)], [PObj.cells [PV.d (DV.slc 1 vs), PV.d (DV.int IntKind.i64 a)]]⟩)))
            (.cnd (!decide ((tokR (List.take (pieceN (bytesOf vs)).toNat (bytesOf vs))).err = 0))
              (.ok (.inl (Ex.ret, ⟨slots 59 [(0, PV.d (DV.str s)), (2, PV.own 4 []), (3, PV.d (DV.int IntKind.i64 (IntKind.i64.wrap (a + (tokR (List.take (pieceN (bytesOf vs)).toNat (bytesOf vs))).pos)))), (4, PV.d (DV.int IntKind.i64 (tokR (List.take (pieceN (bytesOf vs)).toNat (bytesOf vs))).err)), (6, PV.own 4 out)], [PObj.cells
          [PV.d (DV.slc 1 (List.drop (pieceN (bytesOf vs)).toNat vs)), PV.d (DV.int IntKind.i64 (a + pieceN (bytesOf vs)))]]⟩)))
              (.chk (limit 40
        (out.length +
          (fillS (rep 1 (zeroDV ((ctx F [(37, EK.pure S37), (38, EK.eff (frameT S38)), (39, EK.eff (frameT S39))]).ty 55)))
              [(0,
                  DV.agg
                    [DV.int IntKind.i64 (tokR (List.take (pieceN (bytesOf vs)).toNat (bytesOf vs))).kind,
                      DV.str (tokR (List.take (pieceN (bytesOf vs)).toNat (bytesOf vs))).txt,
                      DV.int IntKind.i64 (tokR (List.take (pieceN (bytesOf vs)).toNat (bytesOf vs))).n,
                      DV.int IntKind.i64 a])]).length))
              (.ok (.inr ⟨slots 59 [(0, PV.d (DV.str s)), (5, PV.ptr 0 0), (6, PV.own 4
        (out ++
          [DV.agg
              [DV.int IntKind.i64 (tokR (List.take (pieceN (bytesOf vs)).toNat (bytesOf vs))).kind,
                DV.str (tokR (List.take (pieceN (bytesOf vs)).toNat (bytesOf vs))).txt,
                DV.int IntKind.i64 (tokR (List.take (pieceN (bytesOf vs)).toNat (bytesOf vs))).n, DV.int IntKind.i64 a]]))], [PObj.cells
          [PV.d (DV.slc 1 (List.drop (pieceN (bytesOf vs)).toNat vs)), PV.d (DV.int IntKind.i64 (a + pieceN (bytesOf vs)))]]⟩)))))))))
        (.ok (.inl (Ex.exit 0, ⟨slots 59 [(0, PV.d (DV.str s)), (6, PV.own 4 out)], [PObj.cells [PV.d (DV.slc 1 vs), PV.d (DV.int IntKind.i64 a)]]⟩)))) (rnd K G) := by kernel_rfl
theorem round14_0 (F : Nat) {R : Type} (s : List UInt8) (out : List DV) (a : Int) (K : Ex → St → Option R) (G : St → Option R) : roundK (pcodeK (ctx F [(40, .pure S40), (41, .pure S41)]) noL (lp Tryd.f14 0)) 0 (allBut 68 [0, 5, 6] ++ temps (lp Tryd.f14 0)) (allBut 68 [0, 2, 3, 4, 5]) ⟨slots 68 [(0, .d (.str s)), (5, .own 4 out), (6, .d (.int .i64 a))], []⟩ K G =
    Tr.run
      (.cnd (decide (a < (↑s.length : Int)))
        (.chk (decide (0 ≤ a))
        (.chk (decide (a.toNat < s.length))
        (.cnd (decide ((↑(s.getD a.toNat 0).toNat : Int) = 9))
          (.ok (.inr ⟨slots 68 [(0, PV.d (DV.str s)), (5, PV.own 4 out), (6, PV.d (DV.int IntKind.i64 (IntKind.i64.wrap (a + 1))))], []⟩))
          (.chk (decide (0 ≤ a))
          (.chk (decide (a.toNat < s.length))
          (.cnd (decide ((↑(s.getD a.toNat 0).toNat : Int) = 10))
            (.ok (.inr ⟨slots 68 [(0, PV.d (DV.str s)), (5, PV.own 4 out), (6, PV.d (DV.int IntKind.i64 (IntKind.i64.wrap (a + 1))))], []⟩))
            (.chk (decide (0 ≤ a))
            (.chk (decide (a.toNat < s.length))
            (.cnd (decide ((↑(s.getD a.toNat 0).toNat : Int) = 32))
              (.ok (.inr ⟨slots 68 [(0, PV.d (DV.str s)), (5, PV.own 4 out), (6, PV.d (DV.int IntKind.i64 (IntKind.i64.wrap (a + 1))))], []⟩))
              (.chk (decide (0 ≤ a) && decide (a < (↑s.length : Int)) && decide (s.length ≤ big))
              (.cnd (decide (a + pieceN (List.drop a.toNat s) = a))
                (.ok (.inl (Ex.ret, ⟨slots 68 [(0, PV.d (DV.str s)), (2, PV.own 4 []), (3, PV.d (DV.int IntKind.i64 a)), (4, PV.d (DV.int IntKind.i64 (11))), (5, PV.own 4 out)], []⟩)))
                (.chk (decide (0 ≤ a))
                (.chk (decide (a ≤ a + pieceN (List.drop a.toNat s)))
                (.chk (decide (a + pieceN (List.drop a.toNat s) ≤ (↑s.length : Int)))
                (.chk (decide (1 ≤ (List.drop a.toNat (List.take (a + pieceN (List.drop a.toNat s)).toNat s)).length) &&
        decide ((List.drop a.toNat (List.take (a + pieceN (List.drop a.toNat s)).toNat s)).length ≤ big))
                (.cnd (!decide ((tokR (List.drop a.toNat (List.take (a + pieceN (List.drop a.toNat s)).toNat s))).err = 0))
                  (.ok (.inl (Ex.ret, ⟨slots 68 [(0, PV.d (DV.str s)), (2, PV.own 4 []), (3, PV.d
        (DV.int IntKind.i64
          (IntKind.i64.wrap (a + (tokR (List.drop a.toNat (List.take (a + pieceN (List.drop a.toNat s)).toNat s))).pos)))), (4, PV.d (DV.int IntKind.i64 (tokR (List.drop a.toNat (List.take (a + pieceN (List.drop a.toNat s)).toNat s))).err)), (5, PV.own 4 out)], []⟩)))
                  (.chk (limit 40
        (out.length +
          (fillS (rep 1 (zeroDV ((ctx F [(40, EK.pure S40), (41, EK.pure S41)]).ty 55)))
              [(0,
                  DV.agg
                    [DV.int IntKind.i64
                        (tokR (List.drop a.toNat (List.take (a + pieceN (List.drop a.toNat s)).toNat s))).kind,
                      DV.str (tokR (List.drop a.toNat (List.take (a + pieceN (List.drop a.toNat s)).toNat s))).txt,
                      DV.int IntKind.i64 (tokR (List.drop a.toNat (List.take (a + pieceN (List.drop a.toNat s)).toNat s))).n,
                      DV.int IntKind.i64 a])]).length))
                  (.ok (.inr ⟨slots 68 [(0, PV.d (DV.str s)), (5, PV.own 4
        (out ++
          [DV.agg
              [DV.int IntKind.i64 (tokR (List.drop a.toNat (List.take (a + pieceN (List.drop a.toNat s)).toNat s))).kind,
                DV.str (tokR (List.drop a.toNat (List.take (a + pieceN (List.drop a.toNat s)).toNat s))).txt,
                DV.int IntKind.i64 (tokR (List.drop a.toNat (List.take (a + pieceN (List.drop a.toNat s)).toNat s))).n,
                DV.int IntKind.i64 a]])), (6, PV.d (DV.int IntKind.i64 (a + pieceN (List.drop a.toNat s))))], []⟩)))))))))))))))))))
        (.ok (.inl (Ex.exit 0, ⟨slots 68 [(0, PV.d (DV.str s)), (5, PV.own 4 out)], []⟩)))) (rnd K G) := by kernel_rfl
/-! fasti token.Lex -/
theorem fn13 : FnOk Tryd.prog 13 59 [.tmp 2, .tmp 3, .tmp 4] (body Tryd.f13) := ⟨Tryd.f13, Tryd.func13, bodySome _ (by kernel_rfl), by kernel_rfl, by kernel_rfl, by kernel_rfl, by kernel_rfl⟩
theorem run13 (F : Nat) (s : List UInt8) : runP (ctx F [(37, .pure S37), (38, .eff (frameT S38)), (39, .eff (frameT S39))]) L13 59 [.tmp 2, .tmp 3, .tmp 4] (body Tryd.f13) [.d (.str s)] =
    Tr.val
      (.cnd (decide ((↑s.length : Int) > 2000))
        (.ok (PV.tup [PV.own 4 [], PV.d (DV.int IntKind.i64 (0)), PV.d (DV.int IntKind.i64 (5))]))
        (.chk (decide (0 ≤ 0) && decide (0 ≤ (↑s.length : Int)) && decide (s.length ≤ 2000) && allB (bytesDV s) &&
          decide (bytesOf (bytesDV s) = List.drop (Int.toNat 0) s) &&
        decide ((0 : Int) ≤ 0))
        (.cnd (decide ((lexGo s FU 0 []).err = 0))
          (.ok (PV.tup
        [PV.d (DV.slc 4 (lexGo s FU 0 []).toks), PV.d (DV.int IntKind.i64 (↑s.length : Int)),
          PV.d (DV.int IntKind.i64 (0))]))
          (.ok (PV.tup [PV.own 4 [], PV.d (DV.int IntKind.i64 (lexGo s FU 0 []).pos), PV.d (DV.int IntKind.i64 (lexGo s FU 0 []).err)]))))) := by kernel_rfl
/-! fasti fastiref16.Lex -/
theorem fn14 : FnOk Tryd.prog 14 68 [.tmp 2, .tmp 3, .tmp 4] (body Tryd.f14) := ⟨Tryd.f14, Tryd.func14, bodySome _ (by kernel_rfl), by kernel_rfl, by kernel_rfl, by kernel_rfl, by kernel_rfl⟩
theorem run14 (F : Nat) (s : List UInt8) : runP (ctx F [(40, .pure S40), (41, .pure S41)]) L14 68 [.tmp 2, .tmp 3, .tmp 4] (body Tryd.f14) [.d (.str s)] =
    Tr.val
      (.cnd (decide ((↑s.length : Int) > 2000))
        (.ok (PV.tup [PV.own 4 [], PV.d (DV.int IntKind.i64 (0)), PV.d (DV.int IntKind.i64 (5))]))
        (.chk (decide (0 ≤ 0) && decide (0 ≤ (↑s.length : Int)) && decide (s.length ≤ 2000) && decide ((0 : Int) ≤ 0))
        (.cnd (decide ((lexGo s FU 0 []).err = 0))
          (.ok (PV.tup
        [PV.d (DV.slc 4 (lexGo s FU 0 []).toks), PV.d (DV.int IntKind.i64 (↑s.length : Int)),
          PV.d (DV.int IntKind.i64 (0))]))
          (.ok (PV.tup [PV.own 4 [], PV.d (DV.int IntKind.i64 (lexGo s FU 0 []).pos), PV.d (DV.int IntKind.i64 (lexGo s FU 0 []).err)]))))) := by kernel_rfl
end Go.PS
end

section
namespace Go.PS
open Go.Proofs
set_option maxRecDepth 100000 in
theorem idx_blank (b : UInt8) : decide (Lib.indexByte [32, 9, 10] b ≥ 0) = blankB (b.toNat : Int) :=
  byte_all (p := fun b => decide (Lib.indexByte [32, 9, 10] b ≥ 0) = blankB (b.toNat : Int)) (by decide) b
theorem blank_iff (s : List UInt8) (n : Int) : decide (idxB [32, 9, 10] (chr s n) ≥ 0) = blankB (chr s n) := by
  rw [idx_chr, idx_blank]; rfl
theorem allB_bytes : ∀ {l : List DV}, allB l = true → bytesDV (bytesOf l) = l
  | [], _ => rfl
  | v :: l, h => by
    obtain ⟨n, rfl, h0, h1, h⟩ := allB_cons h
    have e : ((UInt8.ofNat n.toNat).toNat : Int) = n := by rw [UInt8.toNat_ofNat']; omega
    show DV.int .u8 ((UInt8.ofNat n.toNat).toNat : Int) :: bytesDV (bytesOf l) = _
    rw [e, allB_bytes h]
theorem bytesOf_DV (s : List UInt8) : bytesOf (bytesDV s) = s := by
  induction s with
  | nil => rfl
  | cons b s ih =>
    show UInt8.ofNat ((b.toNat : Int)).toNat :: bytesOf (bytesDV s) = _
    rw [ih]; simp
theorem numT_err (s : List UInt8) (h : (numT s).err ≠ 0) : (numT s).kind = 0 ∧ (numT s).n = 0 ∧ (numT s).txt = [] := by
  unfold numT at h ⊢
  grind
theorem tokR_err (s : List UInt8) (h : (tokR s).err ≠ 0) : (tokR s).kind = 0 ∧ (tokR s).n = 0 ∧ (tokR s).txt = [] := by
  have := numT_err s
  unfold tokR at h ⊢
  grind
theorem numT_pos (s : List UInt8) (h : 1 ≤ s.length) : 0 ≤ (numT s).pos ∧ (numT s).pos ≤ s.length := by
  have := parseR_pos (s.drop (hashN s).toNat)
  rw [List.length_drop] at this
  have e : hashN s = 0 ∨ hashN s = 1 := by unfold hashN; grind
  unfold numT
  rcases e with e | e <;> rw [e] at this ⊢
  · have e0 : Int.toNat 0 = 0 := rfl
    rw [e0] at this ⊢
    grind
  · have e0 : Int.toNat 1 = 1 := rfl
    rw [e0] at this ⊢
    grind
theorem tokR_pos (s : List UInt8) (h : 1 ≤ s.length) : 0 ≤ (tokR s).pos ∧ (tokR s).pos ≤ s.length := by
  have := numT_pos s h
  unfold tokR
  grind

set_option maxHeartbeats 1000000 in
theorem loop13 (F : Nat) {R : Type} (s : List UInt8) (K : Ex → St → Option R) (hs : s.length ≤ 2000) :
    ∀ (m : Nat) (a : Int) (vs out : List DV), 0 ≤ a → a ≤ s.length → allB vs = true → bytesOf vs = s.drop a.toNat → out.length ≤ a → (s.length - a).toNat < m →
      loopK (pcodeK (ctx F [(37, .pure S37), (38, .eff (frameT S38)), (39, .eff (frameT S39))]) noL (lp Tryd.f13 0)) 1 (allBut 59 [0, 5, 6] ++ temps (lp Tryd.f13 0)) (allBut 59 [0, 2, 3, 4, 6]) m
        ⟨slots 59 [(0, .d (.str s)), (5, .ptr 0 0), (6, .own 4 out)], [.cells [.d (.slc 1 vs), .d (.int .i64 a)]]⟩ K =
      PS.cnd (decide ((lexGo s m a out).err = 0))
        (K (.exit 0) ⟨slots 59 [(0, .d (.str s)), (6, .own 4 (lexGo s m a out).toks)], [.cells [.d (.slc 1 (bytesDV (s.drop (lexGo s m a out).fin.toNat))), .d (.int .i64 (lexGo s m a out).fin)]]⟩)
        (K .ret ⟨slots 59 [(0, .d (.str s)), (2, .own 4 []), (3, .d (.int .i64 (lexGo s m a out).pos)), (4, .d (.int .i64 (lexGo s m a out).err)), (6, .own 4 (lexGo s m a out).toks)], [.cells [.d (.slc 1 (bytesDV (s.drop (lexGo s m a out).fin.toNat))), .d (.int .i64 (lexGo s m a out).fin)]]⟩) := by
  intro m
  induction m with
  | zero => intro a vs out _ _ _ _ _ hm; omega
  | succ m ih =>
    intro a vs out h0 h1 hb hv ho hm
    rw [loopK_succ, round13_0]
    have hl : vs.length = s.length - a.toNat := by rw [← bytesOf_length (allB_U8 hb), hv, List.length_drop]
    have hvs : vs = bytesDV (s.drop a.toNat) := by rw [← hv, allB_bytes hb]
    have hbig : vs.length ≤ big := by unfold big; omega
    have hab : a ≤ (big : Int) := by unfold big; omega
    simp only [Tr.run, rnd]
    by_cases hk : a < s.length
    · have hf : fits [DV.int IntKind.u8 0] (gt DV.nili vs (Int.toNat 0)).cells = true := fits_byte hb (i := 0) (by omega) (by omega)
      have ha : atI vs (Int.toNat 0) 0 = chr s a := by
        have : atI vs (Int.toNat 0) 0 = chr (bytesOf vs) 0 := atI_chr hb (i := 0) (by omega) (by omega)
        rw [this, hv, chr_drop _ _ _ (by omega), show ((a.toNat : Nat) : Int) + 0 = a by omega]
      rw [cnd_p (by omega), chk_p (by show 0 < vs.length; omega), chk_t hf, ha, blank_iff]
      by_cases b : blankB (chr s a) = true
      · have hg : lexGo s (m + 1) a out = lexGo s m (a + 1) out := by simp only [lexGo, if_pos hk, if_pos b]
        have hd : bytesOf (vs.drop (Int.toNat 1)) = s.drop (a + 1).toNat := by
          rw [bytesOf_drop _ hb, hv, List.drop_drop]; congr 1; show a.toNat + 1 = _; omega
        rw [cnd_t b, chk_t (by simp only [Bool.and_eq_true, decide_eq_true_eq]; exact ⟨⟨⟨⟨⟨by omega, by omega⟩, hbig⟩, hb⟩, h0⟩, hab⟩), ih (a + 1) _ out (by omega) (by omega) (allB_drop _ hb) hd (by omega) (by omega), hg]
      · have pR := pieceN_range (s.drop a.toNat) (by rw [List.length_drop]; omega)
        rw [List.length_drop] at pR
        have e2 : tokR ((bytesOf vs).take (pieceN (bytesOf vs)).toNat) = tokAt s a := by rw [hv]; rfl
        rw [cnd_f (by simpa using b), chk_t (by simp only [Bool.and_eq_true, decide_eq_true_eq]; exact ⟨⟨⟨⟨by omega, hbig⟩, hb⟩, h0⟩, hab⟩), e2, hv]
        by_cases p0 : pieceN (s.drop a.toNat) = 0
        · have hg : lexGo s (m + 1) a out = ⟨out, a, 11, a⟩ := by simp only [lexGo, if_pos hk, if_neg b, if_pos p0]
          have w : IntKind.i64.wrap (a + 0) = a := (wrap64 (by omega) (by omega)).trans (by omega)
          rw [cnd_p p0, hg, w, cnd_n (by simp), ← hvs]
        · rw [cnd_n p0]
          have tp : 0 ≤ (tokAt s a).pos ∧ (tokAt s a).pos ≤ s.length := by
            have := tokR_pos ((s.drop a.toNat).take (pieceN (s.drop a.toNat)).toNat) (by rw [List.length_take, List.length_drop]; omega)
            rw [List.length_take, List.length_drop] at this
            unfold tokAt; omega
          have hd : bytesOf (vs.drop (pieceN (s.drop a.toNat)).toNat) = s.drop (a + pieceN (s.drop a.toNat)).toNat := by
            rw [bytesOf_drop _ hb, hv, List.drop_drop]; congr 1; omega
          have hd' : vs.drop (pieceN (s.drop a.toNat)).toNat = bytesDV (s.drop (a + pieceN (s.drop a.toNat)).toNat) := by
            rw [← hd, allB_bytes (allB_drop _ hb)]
          by_cases e : (tokAt s a).err = 0
          · have hg : lexGo s (m + 1) a out = lexGo s m (a + pieceN (s.drop a.toNat)) (out ++ [(tokAt s a).dv a]) := by simp only [lexGo, if_pos hk, if_neg b, if_neg p0, if_pos e]
            have hlim : ∀ k : Nat, k = 1 → limit 40 (out.length + k) = true := by rintro k rfl; unfold limit; rw [decide_eq_true_eq]; omega
            rw [cnd_f (by rw [e]; rfl), chk_t (by exact hlim _ rfl)]
            refine (ih (a + pieceN (s.drop a.toNat)) _ (out ++ [(tokAt s a).dv a]) (by omega) (by omega) (allB_drop _ hb) hd (by rw [List.length_append, List.length_singleton]; omega) (by omega)).trans ?_
            rw [hg]
          · have hg : lexGo s (m + 1) a out = ⟨out, a + (tokAt s a).pos, (tokAt s a).err, a + pieceN (s.drop a.toNat)⟩ := by simp only [lexGo, if_pos hk, if_neg b, if_neg p0, if_neg e]
            have w : IntKind.i64.wrap (a + (tokAt s a).pos) = a + (tokAt s a).pos := wrap64 (by omega) (by omega)
            rw [cnd_t (by rw [decide_eq_false e]; rfl), hg, w, cnd_n e, hd']
    · have hz : vs = [] := List.eq_nil_of_length_eq_zero (by omega)
      have hg : lexGo s (m + 1) a out = ⟨out, s.length, 0, s.length⟩ := by simp only [lexGo, if_neg hk]
      have ha : a = s.length := by omega
      rw [cnd_n (by omega), hg, cnd_p rfl, hz, ha]
      have : s.drop ((s.length : Int)).toNat = [] := by simp
      rw [this]
      rfl
end Go.PS
end

section
namespace Go.PS
open Go.Proofs
theorem lps13 (F : Nat) (hF : F = FU) : LpsOk (ctx F [(37, .pure S37), (38, .eff (frameT S38)), (39, .eff (frameT S39))]) L13 (loopsOf (body Tryd.f13)) := by
  refine lps_one (c := lp Tryd.f13 0) rfl (by kernel_rfl) fun R st K r h => ?_
  unfold T13 at h
  cases hs : shape 59 [0, 5, 6] st.slots with
  | false => rw [hs] at h; simp [Tr.run] at h
  | true =>
  rw [hs] at h
  simp only [cond_true] at h
  have he := shape_eq hs
  obtain ⟨sl0, H⟩ := st
  dsimp only at h he ⊢
  split at h
  · rename_i s out vs a g0 g1 g2
    simp only [List.map_cons, List.map_nil, g0, g1, g2] at he
    subst he
    simp only [Tr.run] at h
    cases hc : (decide (0 ≤ a) && decide (a ≤ s.length) && decide (s.length ≤ 2000) && allB vs && decide (bytesOf vs = s.drop a.toNat) && decide (out.length ≤ a)) with
    | false => rw [hc] at h; simp at h
    | true =>
    rw [hc] at h
    simp only [Bool.and_eq_true, decide_eq_true_eq] at hc
    obtain ⟨⟨⟨⟨⟨h0, h1⟩, h2⟩, h3⟩, h4⟩, h5⟩ := hc
    refine (loop13 F s K h2 F a vs out h0 h1 h3 h4 h5 (by rw [hF]; unfold FU; omega)).trans ?_
    rw [← h, hF]
    rfl
  · simp [Tr.run] at h

theorem lexGo_ok (s : List UInt8) : ∀ (m : Nat) (a : Int) (out : List DV), (lexGo s m a out).err = 0 → (lexGo s m a out).pos = s.length := by
  intro m
  induction m with
  | zero => intro a out h; simp [lexGo] at h
  | succ m ih =>
    intro a out h
    have i1 := ih (a + 1) out
    have i2 := ih (a + pieceN (s.drop a.toNat)) (out ++ [(tokAt s a).dv a])
    clear ih
    simp only [lexGo] at h ⊢
    grind

theorem ok13 (W0 : World) (hW : Laid W0) : EKOk Tryd.prog W0 13 (.pure S13) := by
  refine pure_of (tyOk FU [(37, .pure S37), (38, .eff (frameT S38)), (39, .eff (frameT S39))]) (look_ok (all_cons (ok37) (all_cons (ok38 W0) (all_cons (ok39 W0 hW) all_nil)))) mixed fn13 (lps13 FU rfl) fun args r h => ?_
  unfold S13 at h
  split at h
  · rename_i s
    refine (run13 FU s).trans ?_
    rw [← h]
    simp only [Tr.val_chk, chk_some, decide_eq_true_eq] at h
    obtain ⟨h0, _⟩ := h
    simp only [Tr.val_ok, Tr.val_cnd, Tr.val_chk]
    rw [chk_p h0]
    unfold lexR
    by_cases g : 2000 < s.length
    · rw [cnd_p (by omega), if_pos g, cnd_n (by simp)]
    · rw [cnd_n (by omega), if_neg g, chk_t (by simp [allB_bytesDV, bytesOf_DV]; omega)]
      by_cases e : (lexGo s FU 0 []).err = 0
      · rw [cnd_p e, cnd_p e, lexGo_ok _ _ _ _ e, e]
      · rw [cnd_n e, cnd_n e]
  · simp [Tr.val_no] at h

theorem loop14 (F : Nat) {R : Type} (s : List UInt8) (K : Ex → St → Option R) (hs : s.length ≤ 2000) :
    ∀ (m : Nat) (a : Int) (out : List DV), 0 ≤ a → a ≤ s.length → out.length ≤ a → (s.length - a).toNat < m →
      loopK (pcodeK (ctx F [(40, .pure S40), (41, .pure S41)]) noL (lp Tryd.f14 0)) 0 (allBut 68 [0, 5, 6] ++ temps (lp Tryd.f14 0)) (allBut 68 [0, 2, 3, 4, 5]) m
        ⟨slots 68 [(0, .d (.str s)), (5, .own 4 out), (6, .d (.int .i64 a))], []⟩ K =
      PS.cnd (decide ((lexGo s m a out).err = 0))
        (K (.exit 0) ⟨slots 68 [(0, .d (.str s)), (5, .own 4 (lexGo s m a out).toks)], []⟩)
        (K .ret ⟨slots 68 [(0, .d (.str s)), (2, .own 4 []), (3, .d (.int .i64 (lexGo s m a out).pos)), (4, .d (.int .i64 (lexGo s m a out).err)), (5, .own 4 (lexGo s m a out).toks)], []⟩) := by
  intro m
  induction m with
  | zero => intro a out _ _ _ hm; omega
  | succ m ih =>
    intro a out h0 h1 ho hm
    rw [loopK_succ, round14_0]
    simp only [Tr.run, rnd, chr_fold]
    have hbig : s.length ≤ big := by unfold big; omega
    by_cases hk : a < s.length
    · have hk' : a.toNat < s.length := by omega
      have w : IntKind.i64.wrap (a + 1) = a + 1 := wrap64 (by omega) (by omega)
      rw [cnd_p hk]
      simp only [chk_p h0, chk_p hk', w]
      by_cases b : blankB (chr s a) = true
      · have hg : lexGo s (m + 1) a out = lexGo s m (a + 1) out := by simp only [lexGo, if_pos hk, if_pos b]
        have i1 := ih (a + 1) out (by omega) (by omega) (by omega) (by omega)
        rw [hg]
        unfold blankB at b
        simp only [Bool.or_eq_true, decide_eq_true_eq] at b
        by_cases b1 : chr s a = 9
        · rw [cnd_p b1, i1]
        · rw [cnd_n b1]
          by_cases b2 : chr s a = 10
          · rw [cnd_p b2, i1]
          · rw [cnd_n b2]
            rw [cnd_p (by omega), i1]
      · have b' := b
        unfold blankB at b'
        simp only [Bool.or_eq_true, decide_eq_true_eq, not_or] at b'
        obtain ⟨⟨b1, b2⟩, b3⟩ := b'
        have pR := pieceN_range (s.drop a.toNat) (by rw [List.length_drop]; omega)
        rw [List.length_drop] at pR
        have e2 : List.drop a.toNat (List.take (a + pieceN (List.drop a.toNat s)).toNat s) = (s.drop a.toNat).take (pieceN (s.drop a.toNat)).toNat := by
          rw [List.drop_take]; congr 1; omega
        have e3 : tokR ((s.drop a.toNat).take (pieceN (s.drop a.toNat)).toNat) = tokAt s a := rfl
        rw [cnd_n b1, cnd_n b2, cnd_n b3, chk_t (by simp only [Bool.and_eq_true, decide_eq_true_eq]; exact ⟨⟨h0, hk⟩, hbig⟩), e2, e3]
        by_cases p0 : pieceN (s.drop a.toNat) = 0
        · have hg : lexGo s (m + 1) a out = ⟨out, a, 11, a⟩ := by simp only [lexGo, if_pos hk, if_neg b, if_pos p0]
          rw [cnd_p (by omega), hg, cnd_n (by simp)]
        · have hlen : ((s.drop a.toNat).take (pieceN (s.drop a.toNat)).toNat).length = (pieceN (s.drop a.toNat)).toNat := by rw [List.length_take, List.length_drop]; omega
          rw [cnd_n (by omega), chk_p (by omega), chk_p (by omega), hlen, chk_t (by simp only [Bool.and_eq_true, decide_eq_true_eq]; unfold big; omega)]
          have tp : 0 ≤ (tokAt s a).pos ∧ (tokAt s a).pos ≤ s.length := by
            have := tokR_pos ((s.drop a.toNat).take (pieceN (s.drop a.toNat)).toNat) (by omega)
            rw [hlen] at this
            unfold tokAt; omega
          by_cases e : (tokAt s a).err = 0
          · have hg : lexGo s (m + 1) a out = lexGo s m (a + pieceN (s.drop a.toNat)) (out ++ [(tokAt s a).dv a]) := by simp only [lexGo, if_pos hk, if_neg b, if_neg p0, if_pos e]
            have hlim : ∀ k : Nat, k = 1 → limit 40 (out.length + k) = true := by rintro k rfl; unfold limit; rw [decide_eq_true_eq]; omega
            rw [cnd_f (by rw [e]; rfl), chk_t (by exact hlim _ rfl)]
            refine (ih (a + pieceN (s.drop a.toNat)) (out ++ [(tokAt s a).dv a]) (by omega) (by omega) (by rw [List.length_append, List.length_singleton]; omega) (by omega)).trans ?_
            rw [hg]
          · have hg : lexGo s (m + 1) a out = ⟨out, a + (tokAt s a).pos, (tokAt s a).err, a + pieceN (s.drop a.toNat)⟩ := by simp only [lexGo, if_pos hk, if_neg b, if_neg p0, if_neg e]
            have w : IntKind.i64.wrap (a + (tokAt s a).pos) = a + (tokAt s a).pos := wrap64 (by omega) (by omega)
            rw [cnd_t (by rw [decide_eq_false e]; rfl), hg, w, cnd_n e]
    · have hg : lexGo s (m + 1) a out = ⟨out, s.length, 0, s.length⟩ := by simp only [lexGo, if_neg hk]
      rw [cnd_n (by omega), hg, cnd_p rfl]

theorem lps14 (F : Nat) (hF : F = FU) : LpsOk (ctx F [(40, .pure S40), (41, .pure S41)]) L14 (loopsOf (body Tryd.f14)) := by
  refine lps_one (c := lp Tryd.f14 0) rfl (by kernel_rfl) fun R st K r h => ?_
  unfold T14 at h
  cases hs : shape 68 [0, 5, 6] st.slots with
  | false => rw [hs] at h; simp [Tr.run] at h
  | true =>
  rw [hs] at h
  simp only [cond_true] at h
  have he := shape_eq hs
  obtain ⟨sl0, H⟩ := st
  dsimp only at h he ⊢
  split at h
  · rename_i s out a g0 g1 g2
    simp only [List.map_cons, List.map_nil, g0, g1, g2] at he
    subst he
    simp only [Tr.run] at h
    cases hc : (decide (0 ≤ a) && decide (a ≤ s.length) && decide (s.length ≤ 2000) && decide (out.length ≤ a)) with
    | false => rw [hc] at h; simp at h
    | true =>
    rw [hc] at h
    simp only [Bool.and_eq_true, decide_eq_true_eq] at hc
    obtain ⟨⟨⟨h0, h1⟩, h2⟩, h5⟩ := hc
    refine (loop14 F s K h2 F a out h0 h1 h5 (by rw [hF]; unfold FU; omega)).trans ?_
    rw [← h, hF]
    rfl
  · simp [Tr.run] at h
theorem ok14 (W0 : World) : EKOk Tryd.prog W0 14 (.pure S13) := by
  refine pure_of (tyOk FU [(40, .pure S40), (41, .pure S41)]) (look_ok (all_cons (ok40 W0) (all_cons (ok41 W0) all_nil))) mixed fn14 (lps14 FU rfl) fun args r h => ?_
  unfold S13 at h
  split at h
  · rename_i s
    refine (run14 FU s).trans ?_
    rw [← h]
    simp only [Tr.val_chk, chk_some, decide_eq_true_eq] at h
    obtain ⟨h0, _⟩ := h
    simp only [Tr.val_ok, Tr.val_cnd, Tr.val_chk]
    rw [chk_p h0]
    unfold lexR
    by_cases g : 2000 < s.length
    · rw [cnd_p (by omega), if_pos g, cnd_n (by simp)]
    · rw [cnd_n (by omega), if_neg g, chk_t (by simp; omega)]
      by_cases e : (lexGo s FU 0 []).err = 0
      · rw [cnd_p e, cnd_p e, lexGo_ok _ _ _ _ e, e]
      · rw [cnd_n e, cnd_n e]
  · simp [Tr.val_no] at h
end Go.PS
end

section
namespace Go.PS
open Go.Proofs
set_option maxRecDepth 100000
theorem roundA15_0 (F : Nat) {R : Type} (A : Option R → Option R → Option R) (xs ys : List DV) (i : Int) (p : Bool) (K : Ex → St → Option R) (G : St → Option R) : roundK (pcodeKA A (ctx F []) noL (lp Tryd.f15 0)) 0 (allBut 36 [0, 1, 2, 7] ++ temps (lp Tryd.f15 0)) (allBut 36 [0, 1, 2, 6]) ⟨slots 36 [(0, .d (.slc 4 xs)), (1, .d (.slc 4 ys)), (2, .d (.bool p)), (7, .d (.int .i64 i))], []⟩ K G =
    (PS.cnd (decide (i < (↑xs.length : Int)))
      (A
        (Tr.run
          (.chk (decide (0 ≤ i))
          (.chk (decide (i.toNat < xs.length))
          (.chk (fits [.int .i64 0, .str [], .int .i64 0, .int .i64 0] (gt DV.nili xs i.toNat).cells)
          (.chk (decide (0 ≤ i))
          (.chk (decide (i.toNat < ys.length))
          (.chk (fits [.int .i64 0, .str [], .int .i64 0, .int .i64 0] (gt DV.nili ys i.toNat).cells)
          (.cnd (!p)
            (.cnd (!(decide (atI xs i.toNat 0 = atI ys i.toNat 0) &&
    (decide (atS xs i.toNat (0 + 1) = atS ys i.toNat (0 + 1)) &&
      (decide (atI xs i.toNat (0 + 1 + 1) = atI ys i.toNat (0 + 1 + 1)) && (decide (0 = 0) && true)))))
              (.ok (.inl (Ex.ret, ⟨slots 36 [(0, PV.d (DV.slc 4 xs)), (1, PV.d (DV.slc 4 ys)), (2, PV.d (DV.bool p)), (6, PV.d (DV.bool false))], []⟩)))
              (.ok (.inr ⟨slots 36 [(0, PV.d (DV.slc 4 xs)), (1, PV.d (DV.slc 4 ys)), (2, PV.d (DV.bool p)), (7, PV.d (DV.int IntKind.i64 (IntKind.i64.wrap (i + 1))))], []⟩)))
            (.cnd (!(decide (atI xs i.toNat 0 = atI ys i.toNat 0) &&
    (decide (atS xs i.toNat (0 + 1) = atS ys i.toNat (0 + 1)) &&
      (decide (atI xs i.toNat (0 + 1 + 1) = atI ys i.toNat (0 + 1 + 1)) &&
        (decide (atI xs i.toNat (0 + 1 + 1 + 1) = atI ys i.toNat (0 + 1 + 1 + 1)) && true)))))
              (.ok (.inl (Ex.ret, ⟨slots 36 [(0, PV.d (DV.slc 4 xs)), (1, PV.d (DV.slc 4 ys)), (2, PV.d (DV.bool p)), (6, PV.d (DV.bool false))], []⟩)))
              (.ok (.inr ⟨slots 36 [(0, PV.d (DV.slc 4 xs)), (1, PV.d (DV.slc 4 ys)), (2, PV.d (DV.bool p)), (7, PV.d (DV.int IntKind.i64 (IntKind.i64.wrap (i + 1))))], []⟩))))))))))
          (rnd K G))
        (Tr.run
          (.chk (decide (0 ≤ i))
          (.chk (decide (i.toNat < xs.length))
          (.chk (fits [.int .i64 0, .str [], .int .i64 0, .int .i64 0] (gt DV.nili xs i.toNat).cells)
          (.chk (decide (0 ≤ i))
          (.chk (decide (i.toNat < ys.length))
          (.chk (fits [.int .i64 0, .str [], .int .i64 0, .int .i64 0] (gt DV.nili ys i.toNat).cells)
          (.cnd (!p)
            (.cnd (!(decide (atI xs i.toNat 0 = atI ys i.toNat 0) &&
    (decide (atS xs i.toNat (0 + 1) = atS ys i.toNat (0 + 1)) &&
      (decide (atI xs i.toNat (0 + 1 + 1) = atI ys i.toNat (0 + 1 + 1)) && (decide (0 = 0) && true)))))
              (.ok (.inl (Ex.ret, ⟨slots 36 [(0, PV.d (DV.slc 4 xs)), (1, PV.d (DV.slc 4 ys)), (2, PV.d (DV.bool p)), (6, PV.d (DV.bool false))], []⟩)))
              (.ok (.inr ⟨slots 36 [(0, PV.d (DV.slc 4 xs)), (1, PV.d (DV.slc 4 ys)), (2, PV.d (DV.bool p)), (7, PV.d (DV.int IntKind.i64 (IntKind.i64.wrap (i + 1))))], []⟩)))
            (.cnd (!(decide (atI xs i.toNat 0 = atI ys i.toNat 0) &&
    (decide (atS xs i.toNat (0 + 1) = atS ys i.toNat (0 + 1)) &&
      (decide (atI xs i.toNat (0 + 1 + 1) = atI ys i.toNat (0 + 1 + 1)) &&
        (decide (atI xs i.toNat (0 + 1 + 1 + 1) = atI ys i.toNat (0 + 1 + 1 + 1)) && true)))))
              (.ok (.inl (Ex.ret, ⟨slots 36 [(0, PV.d (DV.slc 4 xs)), (1, PV.d (DV.slc 4 ys)), (2, PV.d (DV.bool p)), (6, PV.d (DV.bool false))], []⟩)))
              (.ok (.inr ⟨slots 36 [(0, PV.d (DV.slc 4 xs)), (1, PV.d (DV.slc 4 ys)), (2, PV.d (DV.bool p)), (7, PV.d (DV.int IntKind.i64 (IntKind.i64.wrap (i + 1))))], []⟩))))))))))
          (rnd K G)))
      (Tr.run
        (.ok (.inl (Ex.exit 0, ⟨slots 36 [(0, PV.d (DV.slc 4 xs)), (1, PV.d (DV.slc 4 ys)), (2, PV.d (DV.bool p))], []⟩)))
        (rnd K G))) := by kernel_rfl
theorem round15_0 (F : Nat) {R : Type} (xs ys : List DV) (i : Int) (p : Bool) (K : Ex → St → Option R) (G : St → Option R) : roundK (pcodeK (ctx F []) noL (lp Tryd.f15 0)) 0 (allBut 36 [0, 1, 2, 7] ++ temps (lp Tryd.f15 0)) (allBut 36 [0, 1, 2, 6]) ⟨slots 36 [(0, .d (.slc 4 xs)), (1, .d (.slc 4 ys)), (2, .d (.bool p)), (7, .d (.int .i64 i))], []⟩ K G =
    Tr.run
      (.cnd (decide (i < (↑xs.length : Int)))
        (.chk (decide (0 ≤ i))
        (.chk (decide (i.toNat < xs.length))
        (.chk (fits [.int .i64 0, .str [], .int .i64 0, .int .i64 0] (gt DV.nili xs i.toNat).cells)
        (.chk (decide (0 ≤ i))
        (.chk (decide (i.toNat < ys.length))
        (.chk (fits [.int .i64 0, .str [], .int .i64 0, .int .i64 0] (gt DV.nili ys i.toNat).cells)
        (.cnd (!p)
          (.cnd (!(decide (atI xs i.toNat 0 = atI ys i.toNat 0) &&
    (decide (atS xs i.toNat (0 + 1) = atS ys i.toNat (0 + 1)) &&
      (decide (atI xs i.toNat (0 + 1 + 1) = atI ys i.toNat (0 + 1 + 1)) && (decide (0 = 0) && true)))))
            (.ok (.inl (Ex.ret, ⟨slots 36 [(0, PV.d (DV.slc 4 xs)), (1, PV.d (DV.slc 4 ys)), (2, PV.d (DV.bool p)), (6, PV.d (DV.bool false))], []⟩)))
            (.ok (.inr ⟨slots 36 [(0, PV.d (DV.slc 4 xs)), (1, PV.d (DV.slc 4 ys)), (2, PV.d (DV.bool p)), (7, PV.d (DV.int IntKind.i64 (IntKind.i64.wrap (i + 1))))], []⟩)))
          (.cnd (!(decide (atI xs i.toNat 0 = atI ys i.toNat 0) &&
    (decide (atS xs i.toNat (0 + 1) = atS ys i.toNat (0 + 1)) &&
      (decide (atI xs i.toNat (0 + 1 + 1) = atI ys i.toNat (0 + 1 + 1)) &&
        (decide (atI xs i.toNat (0 + 1 + 1 + 1) = atI ys i.toNat (0 + 1 + 1 + 1)) && true)))))
            (.ok (.inl (Ex.ret, ⟨slots 36 [(0, PV.d (DV.slc 4 xs)), (1, PV.d (DV.slc 4 ys)), (2, PV.d (DV.bool p)), (6, PV.d (DV.bool false))], []⟩)))
            (.ok (.inr ⟨slots 36 [(0, PV.d (DV.slc 4 xs)), (1, PV.d (DV.slc 4 ys)), (2, PV.d (DV.bool p)), (7, PV.d (DV.int IntKind.i64 (IntKind.i64.wrap (i + 1))))], []⟩))))))))))
        (.ok (.inl (Ex.exit 0, ⟨slots 36 [(0, PV.d (DV.slc 4 xs)), (1, PV.d (DV.slc 4 ys)), (2, PV.d (DV.bool p))], []⟩)))) (rnd K G) := by
  rw [← pcodeKA_amb]
  refine (roundA15_0 F amb xs ys i p K G).trans ?_
  simp only [amb_self]
  kernel_rfl
end Go.PS
end

section
namespace Go.PS
open Go.Proofs
def allTok : List DV → Bool
  | [] => true
  | v :: l => fits [.int .i64 0, .str [], .int .i64 0, .int .i64 0] v.cells && allTok l
/-- are two tokens the same; with their places, or but for these -/
def sameB (p : Bool) (xs ys : List DV) (i : Nat) : Bool :=
  decide (atI xs i 0 = atI ys i 0) && decide (atS xs i 1 = atS ys i 1) && decide (atI xs i 2 = atI ys i 2) && (!p || decide (atI xs i 3 = atI ys i 3))
def sameTo (p : Bool) (xs ys : List DV) : Nat → Int → Bool
  | 0, _ => true
  | m + 1, i => if i < xs.length then (if sameB p xs ys i.toNat = true then sameTo p xs ys m (i + 1) else false) else true
def S15 : List PV → Tr PV
  | [.d (.slc 4 xs), .d (.slc 4 ys), .d (.bool p)] => .chk (allTok xs && allTok ys && decide (xs.length ≤ big)) (.cnd (decide (xs.length = ys.length)) (.ok (.d (.bool (sameTo p xs ys FU 0)))) (.ok (.d (.bool false))))
  | _ => .no
def T15 (st : St) : Tr (Ex × St) :=
  bif shape 36 [0, 1, 2, 7] st.slots then
    match gt .undef st.slots 0, gt .undef st.slots 1, gt .undef st.slots 2, gt .undef st.slots 7, st.heap with
    | .d (.slc 4 xs), .d (.slc 4 ys), .d (.bool p), .d (.int .i64 i), [] =>
      .chk (decide (0 ≤ i) && decide (i ≤ xs.length) && decide (xs.length = ys.length) && allTok xs && allTok ys && decide (xs.length ≤ big))
       (.cnd (sameTo p xs ys FU i)
        (.ok (.exit 0, ⟨slots 36 [(0, .d (.slc 4 xs)), (1, .d (.slc 4 ys)), (2, .d (.bool p))], []⟩))
        (.ok (.ret, ⟨slots 36 [(0, .d (.slc 4 xs)), (1, .d (.slc 4 ys)), (2, .d (.bool p)), (6, .d (.bool false))], []⟩)))
    | _, _, _, _, _ => .no
  else .no
def L15 : Lps := fun i => bif Nat.beq i 4 then some (allBut 36 [0, 1, 2, 7], allBut 36 [0, 1, 2, 6], T15) else none

theorem allTok_gt : ∀ {l : List DV} (k : Nat), allTok l = true → k < l.length → fits [.int .i64 0, .str [], .int .i64 0, .int .i64 0] (gt .nili l k).cells = true
  | [], k, _, h => absurd h (by simp)
  | v :: l, 0, h, _ => by simp only [allTok, Bool.and_eq_true] at h; exact h.1
  | v :: l, k + 1, h, hk => by simp only [allTok, Bool.and_eq_true] at h; exact allTok_gt k h.2 (by simpa using hk)
theorem allTok_append : ∀ {l r : List DV}, allTok l = true → allTok r = true → allTok (l ++ r) = true
  | [], _, _, h => h
  | v :: l, r, h, h2 => by
    simp only [allTok, Bool.and_eq_true, List.cons_append] at h ⊢
    exact ⟨h.1, allTok_append h.2 h2⟩
theorem lexGo_tok (s : List UInt8) : ∀ (m : Nat) (a : Int) (out : List DV), allTok out = true → allTok (lexGo s m a out).toks = true := by
  intro m
  induction m with
  | zero => intro a out h; exact h
  | succ m ih =>
    intro a out h
    have i1 := ih (a + 1) out h
    have i2 := ih (a + pieceN (s.drop a.toNat)) (out ++ [(tokAt s a).dv a]) (allTok_append h rfl)
    clear ih
    simp only [lexGo]
    grind
theorem lexR_tok (s : List UInt8) : allTok (lexR s).toks = true := by
  unfold lexR
  split
  · rfl
  · exact lexGo_tok s _ _ _ rfl
theorem lexGo_len (s : List UInt8) : ∀ (m : Nat) (a : Int) (out : List DV), (lexGo s m a out).toks.length ≤ out.length + m := by
  intro m
  induction m with
  | zero => intro a out; simp [lexGo]
  | succ m ih =>
    intro a out
    have i1 := ih (a + 1) out
    have i2 := ih (a + pieceN (s.drop a.toNat)) (out ++ [(tokAt s a).dv a])
    rw [List.length_append, List.length_singleton] at i2
    clear ih
    simp only [lexGo]
    grind
/-- no more tokens than bytes -/
theorem lexGo_few (s : List UInt8) : ∀ (m : Nat) (a : Int) (out : List DV), 0 ≤ a → a ≤ s.length → out.length ≤ a → (lexGo s m a out).toks.length ≤ s.length := by
  intro m
  induction m with
  | zero => intro a out _ _ h; simp only [lexGo]; omega
  | succ m ih =>
    intro a out h0 h1 h2
    have i1 := ih (a + 1) out
    have i2 := ih (a + pieceN (s.drop a.toNat)) (out ++ [(tokAt s a).dv a])
    rw [List.length_append, List.length_singleton] at i2
    clear ih
    have pR := pieceN_range (s.drop a.toNat)
    rw [List.length_drop] at pR
    simp only [lexGo]
    grind
theorem lexR_few (s : List UInt8) (h : s.length ≤ big) : (lexR s).toks.length ≤ big := by
  unfold lexR
  split
  · show 0 ≤ big; omega
  · have := lexGo_few s FU 0 [] (by omega) (by omega) (by simp)
    omega

theorem loop15 (F : Nat) {R : Type} (xs ys : List DV) (p : Bool) (K : Ex → St → Option R) (hx : allTok xs = true) (hy : allTok ys = true) (hl : xs.length = ys.length) (hs : xs.length ≤ 1000000) :
    ∀ (m : Nat) (i : Int), 0 ≤ i → i ≤ xs.length → (xs.length - i).toNat < m →
      loopK (pcodeK (ctx F []) noL (lp Tryd.f15 0)) 0 (allBut 36 [0, 1, 2, 7] ++ temps (lp Tryd.f15 0)) (allBut 36 [0, 1, 2, 6]) m
        ⟨slots 36 [(0, .d (.slc 4 xs)), (1, .d (.slc 4 ys)), (2, .d (.bool p)), (7, .d (.int .i64 i))], []⟩ K =
      PS.cnd (sameTo p xs ys m i)
        (K (.exit 0) ⟨slots 36 [(0, .d (.slc 4 xs)), (1, .d (.slc 4 ys)), (2, .d (.bool p))], []⟩)
        (K .ret ⟨slots 36 [(0, .d (.slc 4 xs)), (1, .d (.slc 4 ys)), (2, .d (.bool p)), (6, .d (.bool false))], []⟩) := by
  intro m
  induction m with
  | zero => intro i _ _ hm; omega
  | succ m ih =>
    intro i h0 h1 hm
    rw [loopK_succ, round15_0]
    have ih1 := ih (i + 1)
    clear ih
    have w : i < xs.length → IntKind.i64.wrap (i + 1) = i + 1 := fun _ => wrap64 (by omega) (by omega)
    have f1 := allTok_gt (l := xs) i.toNat hx
    have f2 := allTok_gt (l := ys) i.toNat hy
    simp only [Tr.run, rnd, sameTo, sameB, Nat.zero_add, Nat.reduceAdd, cnd_if, chk_if, Bool.and_true] at ih1 ⊢
    cases p <;> grind

theorem lps15 (F : Nat) (hF : F = FU) : LpsOk (ctx F []) L15 (loopsOf (body Tryd.f15)) := by
  refine lps_one (c := lp Tryd.f15 0) rfl (by kernel_rfl) fun R st K r h => ?_
  unfold T15 at h
  cases hs : shape 36 [0, 1, 2, 7] st.slots with
  | false => rw [hs] at h; simp [Tr.run] at h
  | true =>
  rw [hs] at h
  simp only [cond_true] at h
  have he := shape_eq hs
  obtain ⟨sl0, H⟩ := st
  dsimp only at h he ⊢
  split at h
  · rename_i xs ys p i g0 g1 g2 g7
    simp only [List.map_cons, List.map_nil, g0, g1, g2, g7] at he
    subst he
    simp only [Tr.run] at h
    cases hc : (decide (0 ≤ i) && decide (i ≤ xs.length) && decide (xs.length = ys.length) && allTok xs && allTok ys && decide (xs.length ≤ big)) with
    | false => rw [hc] at h; simp at h
    | true =>
    rw [hc] at h
    simp only [Bool.and_eq_true, decide_eq_true_eq] at hc
    obtain ⟨⟨⟨⟨⟨h0, h1⟩, h2⟩, h3⟩, h4⟩, h5⟩ := hc
    unfold big at h5
    refine (loop15 F xs ys p K h3 h4 h2 h5 F i h0 h1 (by rw [hF]; unfold FU; omega)).trans ?_
    rw [← h, hF]
    rfl
  · simp [Tr.run] at h
theorem sameTo_self (p : Bool) (xs : List DV) : ∀ (m : Nat) (i : Int), sameTo p xs xs m i = true := by
  intro m
  induction m with
  | zero => intro i; rfl
  | succ m ih =>
    intro i
    have : sameB p xs xs i.toNat = true := by unfold sameB; simp
    simp only [sameTo, this, ih]
    simp
def S12 : List PV → Tr PV
  | [] => .ok (.d (.bool true))
  | _ => .no
def S3 : List PV → Tr PV
  | [.d (.str _)] => .ok (.d (.bool true))
  | _ => .no
end Go.PS
end

section
namespace Go.PS
open Go.Proofs
set_option maxRecDepth 100000
/-! fasti fastiref16.Same -/
theorem fn15 : FnOk Tryd.prog 15 36 [.tmp 6] (body Tryd.f15) := ⟨Tryd.f15, Tryd.func15, bodySome _ (by kernel_rfl), by kernel_rfl, by kernel_rfl, by kernel_rfl, by kernel_rfl⟩
theorem run15 (F : Nat) (xs ys : List DV) (p : Bool) : runP (ctx F []) L15 36 [.tmp 6] (body Tryd.f15) [.d (.slc 4 xs), .d (.slc 4 ys), .d (.bool p)] =
    Tr.val
      (.cnd (!decide ((↑xs.length : Int) = (↑ys.length : Int)))
        (.ok (PV.d (DV.bool false)))
        (.chk (decide (0 ≤ 0) && decide (0 ≤ (↑xs.length : Int)) && decide (xs.length = ys.length) && allTok xs && allTok ys &&
        decide (xs.length ≤ big))
        (.cnd (sameTo p xs ys FU 0)
          (.ok (PV.d (DV.bool true)))
          (.ok (PV.d (DV.bool false)))))) := by kernel_rfl
/-! fasti fastilaw16.TokenLexes -/
theorem fn3 : FnOk Tryd.prog 3 41 [.tmp 2] (body Tryd.f3) := ⟨Tryd.f3, Tryd.func3, bodySome _ (by kernel_rfl), by kernel_rfl, by kernel_rfl, by kernel_rfl, by kernel_rfl⟩
theorem run3 (F : Nat) (s : List UInt8) : runP (ctx F [(12, .pure S12), (13, .pure S13), (14, .pure S13), (15, .pure S15)]) noL 41 [.tmp 2] (body Tryd.f3) [.d (.str s)] =
    Tr.val
      (.cnd (decide ((↑s.length : Int) > 5000))
        (.ok (PV.d (DV.bool true)))
        (.chk (decide (s.length ≤ big))
        (.cnd (decide ((lexR s).err = 0))
          (.chk (decide (s.length ≤ big))
          (.cnd (decide ((lexR s).err = 0))
            (.chk (allTok (lexR s).toks && allTok (lexR s).toks && decide ((lexR s).toks.length ≤ big))
            (.cnd (decide ((lexR s).toks.length = (lexR s).toks.length))
              (.cnd (sameTo true (lexR s).toks (lexR s).toks FU 0)
                (.cnd (decide ((lexR s).pos = (lexR s).pos))
                  (.cnd (decide ((lexR s).err = (lexR s).err))
                    (.ok (PV.d (DV.bool true)))
                    (.ok (PV.d (DV.bool false))))
                  (.ok (PV.d (DV.bool false))))
                (.ok (PV.d (DV.bool false))))
              (.ok (PV.d (DV.bool false)))))
            (.chk (allTok (lexR s).toks && allTok [] && decide ((lexR s).toks.length ≤ big))
            (.cnd (decide ((lexR s).toks.length = ([] : List DV).length))
              (.cnd (sameTo true (lexR s).toks [] FU 0)
                (.cnd (decide ((lexR s).pos = (lexR s).pos))
                  (.cnd (decide ((lexR s).err = (lexR s).err))
                    (.ok (PV.d (DV.bool true)))
                    (.ok (PV.d (DV.bool false))))
                  (.ok (PV.d (DV.bool false))))
                (.ok (PV.d (DV.bool false))))
              (.ok (PV.d (DV.bool false)))))))
          (.chk (decide (s.length ≤ big))
          (.cnd (decide ((lexR s).err = 0))
            (.chk (allTok [] && allTok (lexR s).toks && decide (([] : List DV).length ≤ big))
            (.cnd (decide (([] : List DV).length = (lexR s).toks.length))
              (.cnd (decide ((lexR s).pos = (lexR s).pos))
                (.cnd (decide ((lexR s).err = (lexR s).err))
                  (.ok (PV.d (DV.bool true)))
                  (.ok (PV.d (DV.bool false))))
                (.ok (PV.d (DV.bool false))))
              (.ok (PV.d (DV.bool false)))))
            (.cnd (decide ((lexR s).pos = (lexR s).pos))
              (.cnd (decide ((lexR s).err = (lexR s).err))
                (.ok (PV.d (DV.bool true)))
                (.ok (PV.d (DV.bool false))))
              (.ok (PV.d (DV.bool false))))))))) := by kernel_rfl
/-! fasti fastilaw16.lives -/
theorem fn12 : FnOk Tryd.prog 12 88 [.tmp 0] (body Tryd.f12) := ⟨Tryd.f12, Tryd.func12, bodySome _ (by kernel_rfl), by kernel_rfl, by kernel_rfl, by kernel_rfl, by kernel_rfl⟩
theorem run12 (F : Nat)  : runP (ctx F [(13, .pure S13), (15, .pure S15)]) noL 88 [.tmp 0] (body Tryd.f12) [] =
    Tr.val
      (.ok (PV.d (DV.bool true))) := by kernel_rfl
end Go.PS
end

section
namespace Go.PS
open Go.Proofs
theorem ok15 (W0 : World) : EKOk Tryd.prog W0 15 (.pure S15) := by
  refine pure_of (tyOk FU []) (look_ok all_nil) mixed fn15 (lps15 FU rfl) fun args r h => ?_
  unfold S15 at h
  split at h
  · rename_i xs ys p
    refine (run15 FU xs ys p).trans ?_
    rw [← h]
    simp only [Tr.val_chk, chk_some, Bool.and_eq_true, decide_eq_true_eq] at h
    obtain ⟨⟨h0, h1⟩, h2⟩ := h.1
    clear h
    simp only [Tr.val_ok, Tr.val_cnd, Tr.val_chk, cnd_if, chk_if, Bool.and_eq_true, decide_eq_true_eq, Bool.not_eq_true', decide_eq_false_iff_not]
    cases sameTo p xs ys FU 0 <;> grind
  · simp [Tr.val_no] at h
theorem ok12 (W0 : World) (hW : Laid W0) : EKOk Tryd.prog W0 12 (.pure S12) := by
  refine pure_of (tyOk 0 [(13, .pure S13), (15, .pure S15)]) (look_ok (all_cons (ok13 W0 hW) (all_cons (ok15 W0) all_nil))) mixed fn12 (lpsOk_no _ _) fun args r h => ?_
  unfold S12 at h
  split at h
  · exact (run12 0).trans h
  · simp [Tr.val_no] at h
theorem ok3 (W0 : World) (hW : Laid W0) : EKOk Tryd.prog W0 3 (.pure S3) := by
  refine pure_of (tyOk 0 [(12, .pure S12), (13, .pure S13), (14, .pure S13), (15, .pure S15)]) (look_ok (all_cons (ok12 W0 hW) (all_cons (ok13 W0 hW) (all_cons (ok14 W0) (all_cons (ok15 W0) all_nil))))) mixed fn3 (lpsOk_no _ _) fun args r h => ?_
  unfold S3 at h
  split at h
  · rename_i s
    refine (run3 0 s).trans ?_
    rw [← h]
    have ht := lexR_tok s
    have hf := lexR_few s
    have hs := sameTo_self true (lexR s).toks FU 0
    have e1 : s.length ≤ 5000 → s.length ≤ big := by intro h; unfold big; omega
    have e2 : allTok [] = true := rfl
    simp only [Tr.val_ok, Tr.val_cnd, Tr.val_chk, cnd_if, chk_if, Bool.and_eq_true, decide_eq_true_eq, ht, hs, e2, List.length_nil]
    grind
  · simp [Tr.val_no] at h
end Go.PS
#print axioms Go.PS.ok3
end

section
namespace Go.PS
open Go.Proofs
def S88 : List PV → Tr PV
  | [.d (.int .i64 _)] => .ok (.d (.bool false))
  | _ => .no
def cmpI (a b : Int) : Int := if a < b then -1 else if b < a then 1 else 0
def S57 : List PV → Tr PV
  | [.d (.int .i64 a), .d (.int .i64 b)] => .ok (.d (.int .i64 (cmpI a b)))
  | _ => .no
def vcmp (k n : Int) (s : List UInt8) (l m : Int) (t : List UInt8) : Int := if cmpI k l = 0 then (if cmpI n m = 0 then Lib.compareBytes s t else cmpI n m) else cmpI k l
def S26 : List PV → Tr PV
  | [.d (.agg [.int .i64 k, .int .i64 n, .str s]), .d (.agg [.int .i64 l, .int .i64 m, .str t])] => .ok (.d (.int .i64 (vcmp k n s l m t)))
  | _ => .no
def S19 : List PV → Tr PV
  | [.d (.agg [.int .i64 _, .int .i64 _, .str s])] => .ok (.d (.bool (decide ((s.length : Int) ≤ 5000))))
  | _ => .no
def S8 : List PV → Tr PV
  | [.d (.agg [.int .i64 _, .int .i64 _, .str _]), .d (.agg [.int .i64 _, .int .i64 _, .str _]), .d (.agg [.int .i64 _, .int .i64 _, .str _])] => .ok (.d (.bool true))
  | _ => .no
end Go.PS
end

section
namespace Go.PS
open Go.Proofs
set_option maxRecDepth 100000
/-! cmp.isNaN fasti api.ValueKind  -/
theorem fn88 : FnOk Tryd.prog 88 6 [.tmp 2] (body Tryd.f88) := ⟨Tryd.f88, Tryd.func88, bodySome _ (by kernel_rfl), by kernel_rfl, by kernel_rfl, by kernel_rfl, by kernel_rfl⟩
theorem run88 (F : Nat) (n : Int) : runP (ctx F []) noL 6 [.tmp 2] (body Tryd.f88) [.d (.int .i64 n)] =
    Tr.val
      (.ok (PV.d (DV.bool !decide (n = n)))) := by kernel_rfl
/-! cmp.isNaN int  -/
theorem fn89 : FnOk Tryd.prog 89 6 [.tmp 2] (body Tryd.f89) := ⟨Tryd.f89, Tryd.func89, bodySome _ (by kernel_rfl), by kernel_rfl, by kernel_rfl, by kernel_rfl, by kernel_rfl⟩
theorem run89 (F : Nat) (n : Int) : runP (ctx F []) noL 6 [.tmp 2] (body Tryd.f89) [.d (.int .i64 n)] =
    Tr.val
      (.ok (PV.d (DV.bool !decide (n = n)))) := by kernel_rfl
/-! cmp.Compare fasti api.ValueKind  -/
theorem fn57 : FnOk Tryd.prog 57 20 [.tmp 4] (body Tryd.f57) := ⟨Tryd.f57, Tryd.func57, bodySome _ (by kernel_rfl), by kernel_rfl, by kernel_rfl, by kernel_rfl, by kernel_rfl⟩
theorem run57 (F : Nat) (a b : Int) : runP (ctx F [(88, .pure S88)]) noL 20 [.tmp 4] (body Tryd.f57) [.d (.int .i64 a), .d (.int .i64 b)] =
    Tr.val
      (.cnd (decide (a < b))
        (.ok (PV.d (DV.int IntKind.i64 (Int.negSucc 0))))
        (.cnd (decide (a > b))
          (.ok (PV.d (DV.int IntKind.i64 (1))))
          (.ok (PV.d (DV.int IntKind.i64 (0)))))) := by kernel_rfl
/-! cmp.Compare int  -/
theorem fn58 : FnOk Tryd.prog 58 20 [.tmp 4] (body Tryd.f58) := ⟨Tryd.f58, Tryd.func58, bodySome _ (by kernel_rfl), by kernel_rfl, by kernel_rfl, by kernel_rfl, by kernel_rfl⟩
theorem run58 (F : Nat) (a b : Int) : runP (ctx F [(89, .pure S88)]) noL 20 [.tmp 4] (body Tryd.f58) [.d (.int .i64 a), .d (.int .i64 b)] =
    Tr.val
      (.cnd (decide (a < b))
        (.ok (PV.d (DV.int IntKind.i64 (Int.negSucc 0))))
        (.cnd (decide (a > b))
          (.ok (PV.d (DV.int IntKind.i64 (1))))
          (.ok (PV.d (DV.int IntKind.i64 (0)))))) := by kernel_rfl
/-! fasti value.Cmp -/
theorem fn26 : FnOk Tryd.prog 26 28 [.tmp 4] (body Tryd.f26) := ⟨Tryd.f26, Tryd.func26, bodySome _ (by kernel_rfl), by kernel_rfl, by kernel_rfl, by kernel_rfl, by kernel_rfl⟩
theorem run26 (F : Nat) (k n l m : Int) (s t : List UInt8) : runP (ctx F [(57, .pure S57), (58, .pure S57), (59, .pure S59)]) noL 28 [.tmp 4] (body Tryd.f26) [.d (.agg [.int .i64 k, .int .i64 n, .str s]), .d (.agg [.int .i64 l, .int .i64 m, .str t])] =
    Tr.val
      (.cnd (!decide (cmpI k l = 0))
        (.ok (PV.d (DV.int IntKind.i64 (cmpI k l))))
        (.cnd (!decide (cmpI n m = 0))
          (.ok (PV.d (DV.int IntKind.i64 (cmpI n m))))
          (.ok (PV.d (DV.int IntKind.i64 (Lib.compareBytes s t)))))) := by kernel_rfl
/-! fasti fastilaw01.ValueOrder -/
theorem fn8 : FnOk Tryd.prog 8 80 [.tmp 6] (body Tryd.f8) := ⟨Tryd.f8, Tryd.func8, bodySome _ (by kernel_rfl), by kernel_rfl, by kernel_rfl, by kernel_rfl, by kernel_rfl⟩
theorem run8 (F : Nat) (k n l m p q : Int) (s t u : List UInt8) : runP (ctx F [(19, .pure S19), (26, .pure S26), (16, .pure S16)]) noL 80 [.tmp 6] (body Tryd.f8) [.d (.agg [.int .i64 k, .int .i64 n, .str s]), .d (.agg [.int .i64 l, .int .i64 m, .str t]), .d (.agg [.int .i64 p, .int .i64 q, .str u])] =
    Tr.val
      (.cnd (!decide ((↑s.length : Int) ≤ 5000))
        (.ok (PV.d (DV.bool true)))
        (.cnd (!decide ((↑t.length : Int) ≤ 5000))
          (.ok (PV.d (DV.bool true)))
          (.cnd (!decide ((↑u.length : Int) ≤ 5000))
            (.ok (PV.d (DV.bool true)))
            (.cnd (!decide (vcmp k n s l m t = IntKind.i64.wrap (0 - vcmp l m t k n s)))
              (.ok (PV.d (DV.bool false)))
              (.cnd (!decide (vcmp k n s l m t = 0) == (decide (k = l) && (decide (n = m) && (decide (s = t) && true))))
                (.ok (PV.d (DV.bool false)))
                (.cnd (decide (vcmp k n s l m t < -1))
                  (.ok (PV.d (DV.bool false)))
                  (.cnd (decide (vcmp k n s l m t > 1))
                    (.ok (PV.d (DV.bool false)))
                    (.cnd (decide (vcmp k n s l m t > 0))
                      (.cnd (decide (vcmp k n s l m t ≥ 0))
                        (.ok (PV.d (DV.bool true)))
                        (.cnd (decide (vcmp l m t p q u > 0))
                          (.ok (PV.d (DV.bool true)))
                          (.cnd (decide (vcmp k n s p q u < 0))
                            (.ok (PV.d (DV.bool true)))
                            (.ok (PV.d (DV.bool false))))))
                      (.cnd (decide (vcmp l m t p q u > 0))
                        (.cnd (decide (vcmp k n s l m t ≥ 0))
                          (.ok (PV.d (DV.bool true)))
                          (.cnd (decide (vcmp l m t p q u > 0))
                            (.ok (PV.d (DV.bool true)))
                            (.cnd (decide (vcmp k n s p q u < 0))
                              (.ok (PV.d (DV.bool true)))
                              (.ok (PV.d (DV.bool false))))))
                        (.cnd (decide (vcmp k n s p q u ≤ 0))
                          (.cnd (decide (vcmp k n s l m t ≥ 0))
                            (.ok (PV.d (DV.bool true)))
                            (.cnd (decide (vcmp l m t p q u > 0))
                              (.ok (PV.d (DV.bool true)))
                              (.cnd (decide (vcmp k n s p q u < 0))
                                (.ok (PV.d (DV.bool true)))
                                (.ok (PV.d (DV.bool false))))))
                          (.ok (PV.d (DV.bool false))))))))))))) := by kernel_rfl
/-! fasti fastilaw01.short -/
theorem fn19 : FnOk Tryd.prog 19 7 [.tmp 2] (body Tryd.f19) := ⟨Tryd.f19, Tryd.func19, bodySome _ (by kernel_rfl), by kernel_rfl, by kernel_rfl, by kernel_rfl, by kernel_rfl⟩
theorem run19 (F : Nat) (k n : Int) (s : List UInt8) : runP (ctx F []) noL 7 [.tmp 2] (body Tryd.f19) [.d (.agg [.int .i64 k, .int .i64 n, .str s])] =
    Tr.val
      (.ok (PV.d (DV.bool (decide ((↑s.length : Int) ≤ 5000))))) := by kernel_rfl
end Go.PS
end

section
namespace Go.PS
open Go.Proofs

/-- how three comparisons hang together -/
def Cmp3 (x y z : Int) : Prop := (-1 ≤ x ∧ x ≤ 1) ∧ (-1 ≤ y ∧ y ≤ 1) ∧ (-1 ≤ z ∧ z ≤ 1) ∧ (x = 0 → z = y) ∧ (y = 0 → z = x) ∧ (x < 0 → y < 0 → z < 0) ∧ (0 < x → 0 < y → 0 < z)

theorem cmpI_three (a b c : Int) : Cmp3 (cmpI a b) (cmpI b c) (cmpI a c) := by
  unfold Cmp3 cmpI
  refine ⟨?_, ?_, ?_, ?_, ?_, ?_, ?_⟩ <;> split <;> (try split) <;> (try split) <;> (try split) <;> (try split) <;> (try split) <;> omega
theorem cmpI_anti (a b : Int) : cmpI b a = - cmpI a b := by unfold cmpI; split <;> split <;> omega
theorem cmpI_zero (a b : Int) : cmpI a b = 0 ↔ a = b := by unfold cmpI; split <;> (try split) <;> omega

theorem cb_anti : ∀ s t : List UInt8, Lib.compareBytes t s = - Lib.compareBytes s t
  | [], [] => rfl
  | [], _ :: _ => rfl
  | _ :: _, [] => rfl
  | a :: s, b :: t => by
    unfold Lib.compareBytes
    have := cb_anti s t
    simp only [UInt8.lt_iff_toNat_lt]
    split <;> split <;> omega
theorem cb_zero : ∀ s t : List UInt8, Lib.compareBytes s t = 0 ↔ s = t
  | [], [] => by simp [Lib.compareBytes]
  | [], _ :: _ => by simp [Lib.compareBytes]
  | _ :: _, [] => by simp [Lib.compareBytes]
  | a :: s, b :: t => by
    unfold Lib.compareBytes
    have := cb_zero s t
    simp only [UInt8.lt_iff_toNat_lt, List.cons.injEq, ← UInt8.toNat_inj]
    split
    · constructor
      · intro h; omega
      · intro h; omega
    · split
      · constructor
        · intro h; omega
        · intro h; omega
      · rw [this]; constructor
        · intro h; exact ⟨by omega, h⟩
        · intro h; exact h.2
theorem cb_range : ∀ s t : List UInt8, -1 ≤ Lib.compareBytes s t ∧ Lib.compareBytes s t ≤ 1
  | [], [] => by simp [Lib.compareBytes]
  | [], _ :: _ => by simp [Lib.compareBytes]
  | _ :: _, [] => by simp [Lib.compareBytes]
  | a :: s, b :: t => by
    unfold Lib.compareBytes
    have := cb_range s t
    split <;> (try split) <;> omega
theorem cb_three : ∀ s t u : List UInt8, Lib.compareBytes s t < 0 → Lib.compareBytes t u < 0 → Lib.compareBytes s u < 0
  | [], [], _ => by simp [Lib.compareBytes]
  | [], _ :: _, [] => by simp [Lib.compareBytes]
  | [], _ :: _, _ :: _ => by simp [Lib.compareBytes]
  | _ :: _, [], _ => by simp [Lib.compareBytes]
  | _ :: _, _ :: _, [] => by simp [Lib.compareBytes]
  | a :: s, b :: t, c :: u => by
    unfold Lib.compareBytes
    have := cb_three s t u
    simp only [UInt8.lt_iff_toNat_lt]
    intro h1 h2
    split at h1
    · split at h2
      · rw [if_pos (by omega)]; omega
      · split at h2
        · omega
        · rw [if_pos (by omega)]; omega
    · split at h1
      · omega
      · split at h2
        · rw [if_pos (by omega)]; omega
        · split at h2
          · omega
          · rw [if_neg (by omega), if_neg (by omega)]; exact this h1 h2
theorem cb_Cmp3 (s t u : List UInt8) : Cmp3 (Lib.compareBytes s t) (Lib.compareBytes t u) (Lib.compareBytes s u) := by
  refine ⟨cb_range _ _, cb_range _ _, cb_range _ _, fun h => ?_, fun h => ?_, cb_three s t u, fun h1 h2 => ?_⟩
  · rw [cb_zero] at h; rw [h]
  · rw [cb_zero] at h; rw [h]
  · have := cb_three u t s (by rw [cb_anti t u]; omega) (by rw [cb_anti s t]; omega)
    rw [cb_anti s u] at this; omega
theorem lex3 {x1 y1 z1 x2 y2 z2 : Int} (h : Cmp3 x1 y1 z1) (g : Cmp3 x2 y2 z2) : Cmp3 (if x1 = 0 then x2 else x1) (if y1 = 0 then y2 else y1) (if z1 = 0 then z2 else z1) := by
  obtain ⟨a1, a2, a3, a4, a5, a6, a7⟩ := h
  obtain ⟨b1, b2, b3, b4, b5, b6, b7⟩ := g
  by_cases hx : x1 = 0
  · rw [a4 hx]
    by_cases hy : y1 = 0
    · rw [if_pos hx, if_pos hy, if_pos hy]; exact ⟨b1, b2, b3, b4, b5, b6, b7⟩
    · rw [if_pos hx, if_neg hy, if_neg hy]; exact ⟨b1, a2, a2, fun _ => rfl, fun h => absurd h hy, by omega, by omega⟩
  · by_cases hy : y1 = 0
    · rw [a5 hy]
      rw [if_neg hx, if_pos hy, if_neg hx]; exact ⟨a1, b2, a1, fun h => absurd h hx, fun _ => rfl, by omega, by omega⟩
    · rw [if_neg hx, if_neg hy]
      refine ⟨a1, a2, ?_, fun h => absurd h hx, fun h => absurd h hy, fun h1 h2 => ?_, fun h1 h2 => ?_⟩
      · split
        · exact b3
        · exact a3
      · have := a6 h1 h2; rw [if_neg (by omega)]; exact this
      · have := a7 h1 h2; rw [if_neg (by omega)]; exact this
theorem vcmp_three (k n l m p q : Int) (s t u : List UInt8) : Cmp3 (vcmp k n s l m t) (vcmp l m t p q u) (vcmp k n s p q u) :=
  lex3 (cmpI_three k l p) (lex3 (cmpI_three n m q) (cb_Cmp3 s t u))
theorem vcmp_anti (k n l m : Int) (s t : List UInt8) : vcmp l m t k n s = - vcmp k n s l m t := by
  unfold vcmp
  have h1 := cmpI_anti k l
  have h2 := cmpI_anti n m
  have h3 := cb_anti s t
  rw [h1, h2, h3]
  split <;> (try split) <;> (try split) <;> (try split) <;> omega
theorem vcmp_zero (k n l m : Int) (s t : List UInt8) : vcmp k n s l m t = 0 ↔ (k = l ∧ n = m ∧ s = t) := by
  unfold vcmp
  have h1 := cmpI_zero k l
  have h2 := cmpI_zero n m
  have h3 := cb_zero s t
  by_cases a : cmpI k l = 0
  · rw [if_pos a]
    by_cases b : cmpI n m = 0
    · rw [if_pos b, h3]; exact ⟨fun h => ⟨h1.1 a, h2.1 b, h⟩, fun h => h.2.2⟩
    · rw [if_neg b]; exact ⟨fun h => absurd h b, fun h => absurd (h2.2 h.2.1) b⟩
  · rw [if_neg a]; exact ⟨fun h => absurd h a, fun h => absurd (h1.2 h.1) a⟩

theorem ok88 (W0 : World) : EKOk Tryd.prog W0 88 (.pure S88) := by
  refine pure_of (tyOk 0 []) (look_ok all_nil) mixed fn88 (lpsOk_no _ _) fun args r h => ?_
  unfold S88 at h
  split at h
  · rename_i n
    refine (run88 0 n).trans ?_
    rw [← h]; simp
  · simp [Tr.val_no] at h
theorem ok89 (W0 : World) : EKOk Tryd.prog W0 89 (.pure S88) := by
  refine pure_of (tyOk 0 []) (look_ok all_nil) mixed fn89 (lpsOk_no _ _) fun args r h => ?_
  unfold S88 at h
  split at h
  · rename_i n
    refine (run89 0 n).trans ?_
    rw [← h]; simp
  · simp [Tr.val_no] at h
theorem cmpI_tree (a b : Int) : Tr.val (.cnd (decide (a < b)) (.ok (PV.d (DV.int IntKind.i64 (Int.negSucc 0)))) (.cnd (decide (a > b)) (.ok (PV.d (DV.int IntKind.i64 (1)))) (.ok (PV.d (DV.int IntKind.i64 (0)))))) = some (.d (.int .i64 (cmpI a b))) := by
  simp only [Tr.val_ok, Tr.val_cnd]
  unfold cmpI
  by_cases h1 : a < b
  · rw [cnd_p h1, if_pos h1]; rfl
  · rw [cnd_n h1, if_neg h1]
    by_cases h2 : b < a
    · rw [cnd_p (p := a > b) h2, if_pos h2]
    · rw [cnd_n (p := a > b) h2, if_neg h2]
theorem ok57 (W0 : World) : EKOk Tryd.prog W0 57 (.pure S57) := by
  refine pure_of (tyOk 0 [(88, .pure S88)]) (look_ok (all_cons (ok88 W0) all_nil)) mixed fn57 (lpsOk_no _ _) fun args r h => ?_
  unfold S57 at h
  split at h
  · rename_i a b
    refine (run57 0 a b).trans ?_
    rw [← h, cmpI_tree]; rfl
  · simp [Tr.val_no] at h
theorem ok58 (W0 : World) : EKOk Tryd.prog W0 58 (.pure S57) := by
  refine pure_of (tyOk 0 [(89, .pure S88)]) (look_ok (all_cons (ok89 W0) all_nil)) mixed fn58 (lpsOk_no _ _) fun args r h => ?_
  unfold S57 at h
  split at h
  · rename_i a b
    refine (run58 0 a b).trans ?_
    rw [← h, cmpI_tree]; rfl
  · simp [Tr.val_no] at h
theorem ok26 (W0 : World) : EKOk Tryd.prog W0 26 (.pure S26) := by
  refine pure_of (tyOk 0 [(57, .pure S57), (58, .pure S57), (59, .pure S59)]) (look_ok (all_cons (ok57 W0) (all_cons (ok58 W0) (all_cons ok59 all_nil)))) mixed fn26 (lpsOk_no _ _) fun args r h => ?_
  unfold S26 at h
  split at h
  · rename_i k n s l m t
    refine (run26 0 k n l m s t).trans ?_
    rw [← h]
    simp only [Tr.val_ok, Tr.val_cnd]
    unfold vcmp
    by_cases a : cmpI k l = 0
    · rw [if_pos a, decide_eq_true a]
      by_cases b : cmpI n m = 0
      · rw [if_pos b, decide_eq_true b]; rfl
      · rw [if_neg b, decide_eq_false b]; rfl
    · rw [if_neg a, decide_eq_false a]; rfl
  · simp [Tr.val_no] at h
theorem ok19 (W0 : World) : EKOk Tryd.prog W0 19 (.pure S19) := by
  refine pure_of (tyOk 0 []) (look_ok all_nil) mixed fn19 (lpsOk_no _ _) fun args r h => ?_
  unfold S19 at h
  split at h
  · rename_i k n s
    exact (run19 0 k n s).trans h
  · simp [Tr.val_no] at h
theorem wrap_small {x : Int} (h : -1 ≤ x ∧ x ≤ 1) : IntKind.i64.wrap x = x := by
  have : x = -1 ∨ x = 0 ∨ x = 1 := by omega
  rcases this with rfl | rfl | rfl <;> rfl
theorem cnd_no {R : Type} {b : Bool} {x y : Option R} (h : b = false) : PS.cnd b x y = y := by rw [h]; rfl
theorem ok8 (W0 : World) (hW : Laid W0) : EKOk Tryd.prog W0 8 (.pure S8) := by
  refine pure_of (tyOk 0 [(19, .pure S19), (26, .pure S26), (16, .pure S16)]) (look_ok (all_cons (ok19 W0) (all_cons (ok26 W0) (all_cons (ok16 W0 hW) all_nil)))) mixed fn8 (lpsOk_no _ _) fun args r h => ?_
  unfold S8 at h
  split at h
  · rename_i k n s l m t p q u
    refine (run8 0 k n l m p q s t u).trans ?_
    rw [← h]
    simp only [Tr.val_ok, Tr.val_cnd]
    obtain ⟨c1, c2, c3, c4, c5, c6, c7⟩ := vcmp_three k n l m p q s t u
    have hz := vcmp_zero k n l m s t
    rw [vcmp_anti k n l m s t]
    generalize vcmp k n s l m t = x at *
    generalize vcmp l m t p q u = y at *
    generalize vcmp k n s p q u = z at *
    have e1 : IntKind.i64.wrap (0 - -x) = x := by rw [show (0 : Int) - -x = x by omega]; exact wrap_small c1
    rw [e1]
    cases decide ((s.length : Int) ≤ 5000) <;> cases decide ((t.length : Int) ≤ 5000) <;> cases decide ((u.length : Int) ≤ 5000) <;> simp only [Bool.not_true, Bool.not_false, cnd_tt, cnd_ff]
    simp only [decide_true, Bool.not_true, cnd_ff]
    refine (cnd_no ?_).trans ?_
    · by_cases hx : x = 0
      · obtain ⟨r1, r2, r3⟩ := hz.1 hx
        simp [hx, r1, r2, r3]
      · have : ¬ (k = l ∧ n = m ∧ s = t) := fun h => hx (hz.2 h)
        by_cases r1 : k = l
        · by_cases r2 : n = m
          · by_cases r3 : s = t
            · exact absurd ⟨r1, r2, r3⟩ this
            · simp [hx, r3]
          · simp [hx, r2]
        · simp [hx, r1]
    rw [cnd_n (p := x < -1) (by omega), cnd_n (p := x > 1) (by omega)]
    by_cases h1 : x > 0 <;> by_cases h2 : y > 0 <;> by_cases h3 : z ≤ 0 <;> by_cases h4 : x ≥ 0 <;> by_cases h5 : z < 0 <;>
      simp only [decide_eq_true_eq, h1, h2, h3, h4, h5, decide_true, decide_false, cnd_tt, cnd_ff] <;> (exfalso; omega)
  · simp [Tr.val_no] at h
end Go.PS
end
