/- A part of the proof of the claim (the pure semantics PS and the contracts of the functions over it). -/
import Derived.Test.YtihpkebhgkfiaaaDoorPlacesE
set_option linter.all false
section
namespace Go.PS
open Go.Proofs
theorem runTo_stop (q : List UInt8) (c : Bool) (e : Int) : ∀ (m : Nat) (i : Int), i ≤ e → e ≤ q.length → (e - i).toNat < m → (∀ j : Int, i ≤ j → j < e → isDigit (chr q j) = true ∨ (c = true ∧ smallB (chr q j) = true)) →
    (e < q.length → ¬ (isDigit (chr q e) = true ∨ (c = true ∧ smallB (chr q e) = true))) → runTo q c m i = e := by
  intro m
  induction m with
  | zero => intro i _ _ h; omega
  | succ m ih =>
    intro i h1 h2 h3 h4 h5
    simp only [runTo]
    by_cases hi : i = e
    · subst hi
      rw [if_neg]
      rintro ⟨ha, hb⟩
      exact h5 ha hb
    · rw [if_pos ⟨by omega, h4 i (Int.le_refl _) (by omega)⟩]
      exact ih (i + 1) (by omega) h2 (by omega) (fun j ha hb => h4 j (by omega) hb) h5
theorem wordTo_all (p : List UInt8) : ∀ (m : Nat) (i : Int), wordTo p m i = true → (p.length - i).toNat < m → ∀ j : Int, i ≤ j → j < p.length → smallB (chr p j) = true ∨ (j ≠ 0 ∧ isDigit (chr p j) = true) := by
  intro m
  induction m with
  | zero => intro i _ h; omega
  | succ m ih =>
    intro i h h2 j h3 h4
    simp only [wordTo] at h
    rw [if_pos (by omega)] at h
    split at h
    · rename_i hc
      by_cases hj : j = i
      · subst hj; exact hc
      · exact ih (i + 1) h (by omega) j (by omega) h4
    · cases h
theorem chr_app (t r : List UInt8) (j : Int) (h0 : 0 ≤ j) (h : j < t.length) : chr (t ++ r) j = chr t j := by
  rw [← chr_fold, ← chr_fold]
  have : (t ++ r).getD j.toNat 0 = t.getD j.toNat 0 := by
    simp only [List.getD_eq_getElem?_getD]
    rw [List.getElem?_append_left (by omega)]
  rw [this]
theorem chr_end (t u : List UInt8) (c : UInt8) : chr (t ++ c :: u) t.length = (c.toNat : Int) := by
  rw [← chr_fold]
  have : (t ++ c :: u).getD (t.length : Int).toNat 0 = c := by
    simp only [List.getD_eq_getElem?_getD]
    rw [List.getElem?_append_right (by omega)]
    simp
  rw [this]
theorem hex_plain (n : Int) : hexDig n ≠ 34 ∧ hexDig n ≠ 92 := by
  unfold hexDig
  have : ∀ m : Nat, ([48, 49, 50, 51, 52, 53, 54, 55, 56, 57, 97, 98, 99, 100, 101, 102] : List UInt8).getD m 0 ≠ 34 ∧ ([48, 49, 50, 51, 52, 53, 54, 55, 56, 57, 97, 98, 99, 100, 101, 102] : List UInt8).getD m 0 ≠ 92 := by
    intro m
    rcases Nat.lt_or_ge m 16 with h | h
    · have : ∀ m : Fin 16, ([48, 49, 50, 51, 52, 53, 54, 55, 56, 57, 97, 98, 99, 100, 101, 102] : List UInt8).getD m.val 0 ≠ 34 ∧ ([48, 49, 50, 51, 52, 53, 54, 55, 56, 57, 97, 98, 99, 100, 101, 102] : List UInt8).getD m.val 0 ≠ 92 := by decide
      exact this ⟨m, h⟩
    · rw [List.getD_eq_getElem?_getD, List.getElem?_eq_none (by simpa using h)]
      decide
  exact this n.toNat
theorem close_q {q : List UInt8} {k m : Nat} {u : List UInt8} (h : q.drop k = 34 :: u) : closeTo q (m + 1) k = k + 1 := by
  obtain ⟨h1, h2, _⟩ := chr_at h
  have e : ((34 : UInt8).toNat : Int) = 34 := rfl
  rw [e] at h1
  simp only [closeTo]
  rw [if_pos (by omega), if_pos h1]
theorem close_e {q : List UInt8} {k m : Nat} {u : List UInt8} (h : q.drop k = 92 :: u) : closeTo q (m + 1) k = closeTo q m ((k + 2 : Nat) : Int) := by
  obtain ⟨h1, h2, _⟩ := chr_at h
  simp only [closeTo]
  have e : ((92 : UInt8).toNat : Int) = 92 := rfl
  rw [e] at h1
  rw [if_pos (by omega), if_neg (by omega), if_pos h1]
  rfl
theorem close_p {q : List UInt8} {k m : Nat} {c : UInt8} {u : List UInt8} (h : q.drop k = c :: u) (h3 : c ≠ 34) (h9 : c ≠ 92) : closeTo q (m + 1) k = closeTo q m ((k + 1 : Nat) : Int) := by
  obtain ⟨h1, h2, _⟩ := chr_at h
  simp only [closeTo]
  have a1 : ¬ chr q k = 34 := fun e => h3 (UInt8.toNat_inj.1 (by have : (34 : UInt8).toNat = 34 := rfl; omega))
  have a2 : ¬ chr q k = 92 := fun e => h9 (UInt8.toNat_inj.1 (by have : (92 : UInt8).toNat = 92 := rfl; omega))
  rw [if_pos (by omega), if_neg a1, if_neg a2]
  rfl
theorem drop_next {q u : List UInt8} {k : Nat} {c : UInt8} (h : q.drop k = c :: u) : q.drop (k + 1) = u := (chr_at h).2.2
theorem close_flat (q rest : List UInt8) : ∀ (s : List UInt8) (k m : Nat), q.drop k = flatB s ++ 34 :: rest → (flatB s).length < m → closeTo q m k = k + (flatB s).length + 1
  | [], k, m, h, hm => by
    obtain ⟨m, rfl⟩ : ∃ x, m = x + 1 := ⟨m - 1, by omega⟩
    rw [close_q h]; rfl
  | b :: s, k, m, h, hm => by
    obtain ⟨m, rfl⟩ : ∃ x, m = x + 1 := ⟨m - 1, by omega⟩
    have e0 : flatB (b :: s) = writB (b.toNat : Int) ++ flatB s := rfl
    rw [e0] at h hm ⊢
    rw [List.append_assoc] at h
    rw [List.length_append] at hm ⊢
    unfold writB at h hm ⊢
    by_cases c1 : (b.toNat : Int) = 34 ∨ (b.toNat : Int) = 92
    · rw [if_pos c1] at h hm ⊢
      have h2 := drop_next h
      have h3 := drop_next h2
      rw [close_e h, close_flat q rest s (k + 2) m h3 (by simp at hm; omega)]
      simp; omega
    · rw [if_neg c1] at h hm ⊢
      by_cases c2 : (b.toNat : Int) = 10
      · rw [if_pos c2] at h hm ⊢
        have h2 := drop_next h
        have h3 := drop_next h2
        rw [close_e h, close_flat q rest s (k + 2) m h3 (by simp at hm; omega)]
        simp; omega
      · rw [if_neg c2] at h hm ⊢
        by_cases c3 : (b.toNat : Int) < 32 ∨ (b.toNat : Int) = 127
        · rw [if_pos c3] at h hm ⊢
          have h2 := drop_next h
          have h3 := drop_next h2
          have h4 := drop_next h3
          have h5 := drop_next h4
          obtain ⟨m, rfl⟩ : ∃ x, m = x + 2 := ⟨m - 2, by simp at hm; omega⟩
          rw [close_e h, close_p h3 (hex_plain _).1 (hex_plain _).2, close_p h4 (hex_plain _).1 (hex_plain _).2, close_flat q rest s (k + 2 + 1 + 1) m h5 (by simp at hm; omega)]
          simp; omega
        · rw [if_neg c3] at h hm ⊢
          have eb : UInt8.ofNat (b.toNat : Int).toNat = b := by simp
          rw [eb] at h
          have h2 := drop_next h
          rw [close_p h (fun e => c1 (.inl (by rw [e]; rfl))) (fun e => c1 (.inr (by rw [e]; rfl))), close_flat q rest s (k + 1) m h2 (by simp at hm; omega)]
          simp; omega
theorem piece_mark1 (c : UInt8) (r : List UInt8) (hr : r = [] ∨ ∃ u, r = 32 :: u) (h1 : markB [c] = true) (h2 : markB [c, 32] = false) : pieceN ([c] ++ r) = 1 := by
  have mf := mark_first [c] 1 (by simpa using h1)
  obtain ⟨a1, a2, a3, a4, a5, _⟩ := mf
  have e : chr ([c] ++ r) 0 = chr [c] 0 := rfl
  unfold pieceN
  rw [e, if_neg (by simp [a1]), if_neg a2, if_neg (by simp [a3, a4, a5])]
  have t1 : ([c] ++ r).take 1 = [c] := rfl
  rcases hr with rfl | ⟨u, rfl⟩
  · rw [if_neg (by rintro ⟨h, _⟩; simp at h), t1, if_pos h1]
  · have t2 : ([c] ++ 32 :: u).take 2 = [c, 32] := rfl
    rw [t2, if_neg (by simp [h2]), t1, if_pos h1]
theorem piece_mark2 (c d : UInt8) (r : List UInt8) (h1 : markB [c, d] = true) : pieceN ([c, d] ++ r) = 2 := by
  have mf := mark_first [c, d] 2 (by simpa using h1)
  obtain ⟨a1, a2, a3, a4, a5, _⟩ := mf
  have e : chr ([c, d] ++ r) 0 = chr [c, d] 0 := rfl
  have t2 : ([c, d] ++ r).take 2 = [c, d] := rfl
  unfold pieceN
  rw [e, if_neg (by simp [a1]), if_neg a2, if_neg (by simp [a3, a4, a5]), t2, if_pos ⟨by simp, h1⟩]
theorem itoa_form (n : Int) : ∃ c r, allDig (c :: r) ∧ Lib.itoa n = (if n < 0 then 45 :: c :: r else c :: r) := by
  by_cases hn : n < 0
  · obtain ⟨c, r, e, hd, _⟩ := dec_first (n.natAbs + 1) n.natAbs (by omega)
    exact ⟨c, r, hd, by unfold Lib.itoa; rw [if_pos hn, if_pos hn, e]⟩
  · obtain ⟨c, r, e, hd, _⟩ := dec_first (n.toNat + 1) n.toNat (by omega)
    exact ⟨c, r, hd, by unfold Lib.itoa; rw [if_neg hn, if_neg hn, e]⟩
theorem dig_chr {l : List UInt8} (h : allDig l) (j : Int) (h0 : 0 ≤ j) (hj : j < l.length) : isDigit (chr l j) = true := by
  rw [← chr_fold]
  have hm : l.getD j.toNat 0 ∈ l := by
    rw [List.getD_eq_getElem?_getD, List.getElem?_eq_getElem (show j.toNat < l.length by omega)]
    exact List.getElem_mem _
  obtain ⟨h1, h2⟩ := h _ hm
  unfold isDigit
  simp only [Bool.and_eq_true, decide_eq_true_eq]
  omega
theorem dig_not (c : UInt8) (h : 48 ≤ c.toNat ∧ c.toNat ≤ 57) : smallB (c.toNat : Int) = false ∧ (c.toNat : Int) ≠ 34 ∧ (c.toNat : Int) ≠ 35 ∧ (c.toNat : Int) ≠ 45 ∧ isDigit (c.toNat : Int) = true ∧ blankB (c.toNat : Int) = false := by
  refine ⟨?_, by omega, by omega, by omega, ?_, ?_⟩
  · unfold smallB; simp only [Bool.and_eq_false_iff, decide_eq_false_iff_not]; omega
  · unfold isDigit; simp only [Bool.and_eq_true, decide_eq_true_eq]; omega
  · unfold blankB; simp only [Bool.or_eq_false_iff, decide_eq_false_iff_not]; omega
theorem small_not {c : Int} (h : smallB c = true) : blankB c = false := by
  unfold smallB at h
  simp only [Bool.and_eq_true, decide_eq_true_eq] at h
  unfold blankB; simp only [Bool.or_eq_false_iff, decide_eq_false_iff_not]; omega
/-- where a run of digits ends before a blank -/
theorem run_end (t r : List UInt8) (c : Bool) (i : Int) (h0 : 0 ≤ i) (hi : i ≤ t.length) (hl : t.length ≤ 1000) (hr : r = [] ∨ ∃ u, r = 32 :: u) (h : ∀ j : Int, i ≤ j → j < t.length → isDigit (chr t j) = true ∨ (c = true ∧ smallB (chr t j) = true)) :
    runTo (t ++ r) c FU i = t.length := by
  refine runTo_stop (t ++ r) c t.length FU i hi (by rw [List.length_append]; omega) (by unfold FU; omega) (fun j h1 h2 => by rw [chr_app t r j (by omega) h2]; exact h j h1 h2) fun hlt => ?_
  rcases hr with rfl | ⟨u, rfl⟩
  · rw [List.append_nil] at hlt; omega
  · rw [chr_end]
    rintro (h | ⟨_, h⟩)
    · exact absurd h (by decide)
    · exact absurd h (by decide)
end Go.PS
end

section
namespace Go.PS
open Go.Proofs
set_option linter.unusedSimpArgs false
theorem numT_of (t : List UInt8) (h35 : chr t 0 ≠ 35) (he : (parseR t).err = 0) : numT t = if (parseR t).kind = 2 then ⟨3, 0, (parseR t).txt, 0, 0⟩ else ⟨2, (parseR t).n, [], 0, 0⟩ := by
  have h1 : hashN t = 0 := by unfold hashN; rw [if_neg h35]
  unfold numT
  rw [h1]
  have hd0 : t.drop (Int.toNat 0) = t := rfl
  rw [hd0, if_neg (by omega), if_neg (by omega), if_pos rfl]
theorem not_mark {t : List UInt8} (h : chr t 0 = 34 ∨ chr t 0 = 45 ∨ chr t 0 = 35 ∨ isDigit (chr t 0) = true) : ¬ markB t = true := by
  intro hm
  have mf := mark_first t t.length (by rw [List.take_length]; exact hm)
  obtain ⟨_, m1, m2, m3, m4, _⟩ := mf
  rcases h with h | h | h | h
  · exact m1 h
  · exact m2 h
  · exact m3 h
  · rw [h] at m4; cases m4
/-- a right token's text is one piece, read as the token -/
theorem tok_fwd (k n a : Int) (s : List UInt8) (h : tokRight k n a s = true) (hn1 : -9223372036854775808 ≤ n) (hn2 : n ≤ 9223372036854775807) (r : List UInt8) (hr : r = [] ∨ ∃ u, r = 32 :: u) :
    1 ≤ (tokText k n a s).length ∧ blankB (chr (tokText k n a s ++ r) 0) = false ∧ pieceN (tokText k n a s ++ r) = (tokText k n a s).length ∧ tokR (tokText k n a s) = ⟨k, n, s, 0, 0⟩ := by
  rw [tokText_t h]
  obtain ⟨_, (⟨rfl, rfl, hl, hw⟩ | ⟨rfl, rfl⟩ | ⟨rfl, rfl, h3⟩ | ⟨rfl, rfl, hp⟩ | ⟨rfl, rfl, hm⟩)⟩ := tokRight_k h
  · -- a word
    rw [if_neg (by decide), if_neg (by decide), if_neg (by decide)]
    simp only [wordB, Bool.and_eq_true, decide_eq_true_eq] at hw
    have hpos : 1 ≤ s.length := by cases s with | nil => exact absurd rfl hw.2 | cons => simp
    have hall := wordTo_all s FU 0 hw.1 (by unfold FU; omega)
    have g0 : smallB (chr s 0) = true := by
      rcases hall 0 (by omega) (by omega) with h | ⟨h, _⟩
      · exact h
      · exact absurd rfl h
    have e0 := chr_app s r 0 (by omega) (by omega)
    refine ⟨hpos, by rw [e0]; exact small_not g0, ?_, ?_⟩
    · unfold pieceN
      rw [e0, if_pos g0]
      refine run_end s r true 0 (by omega) (by omega) (by omega) hr fun j h1 h2 => ?_
      rcases hall j h1 h2 with h | ⟨_, h⟩
      · exact .inr ⟨rfl, h⟩
      · exact .inl h
    · unfold tokR
      rw [if_pos g0, if_neg (by omega)]
  · -- a number
    rw [if_neg (by decide), if_pos rfl]
    obtain ⟨c, l, hd, hf⟩ := itoa_form n
    obtain ⟨p1, p2, p3, _, p5⟩ := parse_itoa n hn1 hn2
    have len := itoa_len20 n (by omega)
    have hc := dig_not c (hd c (List.mem_cons_self ..))
    generalize Lib.itoa n = t at *
    have hpos : 1 ≤ t.length := by rw [hf]; split <;> simp
    have e0 := chr_app t r 0 (by omega) (by omega)
    have g : smallB (chr t 0) = false ∧ chr t 0 ≠ 34 ∧ chr t 0 ≠ 35 ∧ (chr t 0 = 45 ∨ isDigit (chr t 0) = true) ∧ blankB (chr t 0) = false := by
      rw [hf]
      by_cases hneg : n < 0
      · rw [if_pos hneg]
        have : chr (45 :: c :: l) 0 = 45 := rfl
        rw [this]; decide
      · rw [if_neg hneg]
        have : chr (c :: l) 0 = (c.toNat : Int) := rfl
        rw [this]
        exact ⟨hc.1, hc.2.1, hc.2.2.1, .inr hc.2.2.2.2.1, hc.2.2.2.2.2⟩
    obtain ⟨g1, g2, g3, g4, g5⟩ := g
    refine ⟨hpos, by rw [e0]; exact g5, ?_, ?_⟩
    · unfold pieceN
      rw [e0, if_neg (by simp [g1]), if_neg g2, if_pos (by rcases g4 with g | g; exact .inl g; exact .inr (.inr g))]
      refine run_end t r false 1 (by omega) (by omega) (by omega) hr fun j h1 h2 => .inl ?_
      rw [hf] at h2 ⊢
      by_cases hneg : n < 0
      · rw [if_pos hneg] at h2 ⊢
        have hh : chr (45 :: c :: l) j = chr (c :: l) (j - 1) := by
          rw [← chr_fold, ← chr_fold]
          obtain ⟨i, hi⟩ : ∃ i, j.toNat = i + 1 := ⟨j.toNat - 1, by omega⟩
          rw [hi, show (j - 1).toNat = i by omega]
          rfl
        rw [hh]
        exact dig_chr hd (j - 1) (by omega) (by simp at h2 ⊢; omega)
      · rw [if_neg hneg] at h2 ⊢
        exact dig_chr hd j (by omega) h2
    · unfold tokR
      rw [if_neg (by simp [g1]), if_neg (not_mark (by rcases g4 with g | g; exact .inr (.inl g); exact .inr (.inr (.inr g)))), numT_of t g3 p5, if_neg (by omega), p2]
  · -- a text
    rw [if_pos rfl]
    have ho : okR s = true ∧ s.length ≤ 40 := by
      rcases right_kind h3 with ⟨q, _⟩ | ⟨_, _, q1, q2⟩
      · exact absurd q (by decide)
      · exact ⟨q2, q1⟩
    have hsb : s.length ≤ big := by unfold big; omega
    have hq := quote_eq s hsb ho.1
    obtain ⟨p1, p2, p3, _, p5⟩ := parse_text 2 0 s h3 (by omega) (by omega) hsb
    rw [textV_2 h3] at p1 p2 p3 p5
    have ql := quote_len s h3
    have hform : quoteR s = 34 :: (flatB s ++ [34]) := by rw [← hq]; rfl
    have fl := flatB_len s
    have e0 : chr (quoteR s ++ r) 0 = 34 := by rw [hform]; rfl
    have e1 : chr (quoteR s) 0 = 34 := by rw [hform]; rfl
    refine ⟨by rw [hform]; simp, by rw [e0]; decide, ?_, ?_⟩
    · unfold pieceN
      rw [e0, if_neg (by decide), if_pos rfl]
      have hd : (quoteR s ++ r).drop 1 = flatB s ++ 34 :: r := by rw [hform]; simp
      have := close_flat (quoteR s ++ r) r s 1 FU hd (by unfold FU; omega)
      refine this.trans ?_
      rw [hform]; simp; omega
    · unfold tokR
      rw [e1, if_neg (by decide), if_neg (not_mark (.inl e1)), numT_of _ (by rw [e1]; decide) p5, if_pos p1, p3]
  · -- a commit
    rw [if_neg (by decide), if_neg (by decide), if_pos rfl]
    obtain ⟨c, l, hd, hf⟩ := itoa_form n
    obtain ⟨p1, p2, p3, _, p5⟩ := parse_itoa n hn1 hn2
    have len := itoa_len20 n (by omega)
    rw [if_neg (by omega)] at hf
    generalize Lib.itoa n = t at *
    have e0 : chr ((35 :: t) ++ r) 0 = 35 := rfl
    have e1 : chr (35 :: t) 0 = 35 := rfl
    refine ⟨Nat.succ_le_succ (Nat.zero_le _), by rw [e0]; decide, ?_, ?_⟩
    · unfold pieceN
      rw [e0, if_neg (by decide), if_neg (by decide), if_pos (by decide)]
      refine run_end (35 :: t) r false 1 (by omega) (by rw [List.length_cons]; omega) (by rw [List.length_cons]; omega) hr fun j h1 h2 => .inl ?_
      have hh : chr (35 :: t) j = chr t (j - 1) := by
        rw [← chr_fold, ← chr_fold]
        obtain ⟨i, hi⟩ : ∃ i, j.toNat = i + 1 := ⟨j.toNat - 1, by omega⟩
        rw [hi, show (j - 1).toNat = i by omega]
        rfl
      rw [hh]
      rw [← hf] at hd
      exact dig_chr hd (j - 1) (by omega) (by simp at h2 ⊢; omega)
    · unfold tokR
      rw [e1, if_neg (by decide), if_neg (not_mark (.inr (.inr (.inl e1))))]
      have h1 : hashN (35 :: t) = 1 := by unfold hashN; rw [e1]; rfl
      unfold numT
      rw [h1]
      have hd1 : (35 :: t).drop (Int.toNat 1) = t := rfl
      rw [hd1, if_neg (by omega), if_neg (by omega), if_neg (by omega), if_neg (by decide), if_neg (by omega), p2]
  · -- a mark
    rw [if_neg (by decide), if_neg (by decide), if_neg (by decide)]
    have mf := mark_first s s.length (by rw [List.take_length]; exact hm)
    obtain ⟨m0, m1, m2, m3, m4, _, m6⟩ := mf
    have e0 := chr_app s r 0 (by omega) (by omega)
    refine ⟨m6, ?_, ?_, ?_⟩
    · rw [e0]
      have hm' := hm
      unfold markB at hm'
      simp only [Bool.or_eq_true, decide_eq_true_eq] at hm'
      rcases hm' with ((((((((h | h) | h) | h) | h) | h) | h) | h) | h) | h <;> subst h <;> decide
    · have hm' := hm
      unfold markB at hm'
      simp only [Bool.or_eq_true, decide_eq_true_eq] at hm'
      rcases hm' with ((((((((h | h) | h) | h) | h) | h) | h) | h) | h) | h <;> subst h
      · exact piece_mark1 _ r hr hm (by decide)
      · exact piece_mark1 _ r hr hm (by decide)
      · exact piece_mark1 _ r hr hm (by decide)
      · exact piece_mark1 _ r hr hm (by decide)
      · exact piece_mark1 _ r hr hm (by decide)
      · exact piece_mark2 _ _ r hm
      · exact piece_mark1 _ r hr hm (by decide)
      · exact piece_mark2 _ _ r hm
      · exact piece_mark1 _ r hr hm (by decide)
      · exact piece_mark2 _ _ r hm
    · unfold tokR
      rw [if_neg (by simp [m0]), if_pos hm]
/-- tokens, placed one behind another with a blank between -/
def placed : Int → List DV → List DV
  | _, [] => []
  | a, v :: l => .agg [.int .i64 (cI v 0), .str (cS v 1), .int .i64 (cI v 2), .int .i64 a] :: placed (a + (txD v).length + 1) l
theorem placed_len (l : List DV) : ∀ a, (placed a l).length = l.length := by
  induction l with
  | nil => intro a; rfl
  | cons v l ih => intro a; simp [placed, ih]
theorem placed_tok (l : List DV) : ∀ a, allTok (placed a l) = true := by
  induction l with
  | nil => intro a; rfl
  | cons v l ih => intro a; simp only [placed, allTok]; rw [ih]; rfl
theorem lex_join (s : List UInt8) : ∀ (l : List DV) (m : Nat) (a : Int) (out : List DV), l.all goodD = true → l.all okD = true → 0 ≤ a → a ≤ s.length → s.drop a.toNat = joinX l → (s.length - a).toNat < m →
    lexGo s m a out = ⟨out ++ placed a l, s.length, 0, s.length⟩
  | [], m, a, out, _, _, h0, h1, hd, hm => by
    obtain ⟨m, rfl⟩ : ∃ x, m = x + 1 := ⟨m - 1, by omega⟩
    have : s.length ≤ a.toNat := by rw [← List.drop_eq_nil_iff]; exact hd
    simp only [lexGo]
    rw [if_neg (by omega)]
    simp [placed]
  | v :: l, m, a, out, hg, hk, h0, h1, hd, hm => by
    obtain ⟨m, rfl⟩ : ∃ x, m = x + 1 := ⟨m - 1, by omega⟩
    simp only [List.all_cons, Bool.and_eq_true] at hg hk
    obtain ⟨_, n1, n2⟩ := okD_p hk.1
    have hr : ∃ r, joinX (v :: l) = txD v ++ r ∧ ((l = [] ∧ r = []) ∨ (l ≠ [] ∧ r = 32 :: joinX l)) := by
      unfold joinX
      cases l with
      | nil => exact ⟨[], by simp [join_one], .inl ⟨rfl, rfl⟩⟩
      | cons w l => exact ⟨32 :: Lib.join ((w :: l).map txD) [32], by simp only [List.map_cons, join_cons], .inr ⟨by simp, rfl⟩⟩
    obtain ⟨r, er, hr⟩ := hr
    rw [er] at hd
    have tf := tok_fwd (cI v 0) (cI v 2) (cI v 3) (cS v 1) hg.1 n1 n2 r (by rcases hr with ⟨_, h⟩ | ⟨_, h⟩; exact .inl h; exact .inr ⟨_, h⟩)
    obtain ⟨t1, t2, t3, t4⟩ := tf
    rw [show tokText (cI v 0) (cI v 2) (cI v 3) (cS v 1) = txD v from rfl] at t1 t2 t3 t4
    have hlen : s.length - a.toNat = (txD v).length + r.length := by rw [← List.length_drop, hd, List.length_append]
    have hc : chr s a = chr (s.drop a.toNat) 0 := by
      have := chr_drop s a.toNat 0 (by omega)
      rw [this]; congr 1; omega
    have hpa : pieceN (s.drop a.toNat) = (txD v).length := by rw [hd]; exact t3
    have htk : tokAt s a = ⟨cI v 0, cI v 2, cS v 1, 0, 0⟩ := by
      unfold tokAt
      rw [hpa, hd, show ((txD v).length : Int).toNat = (txD v).length from rfl, List.take_left]
      exact t4
    have step : lexGo s (m + 1) a out = lexGo s m (a + (txD v).length) (out ++ [.agg [.int .i64 (cI v 0), .str (cS v 1), .int .i64 (cI v 2), .int .i64 a]]) := by
      simp only [lexGo]
      rw [if_pos (by omega), hc, hd, t2, ← hd, hpa, htk, if_neg (by simp), if_neg (by omega), if_pos rfl]
      rfl
    rw [step]
    have hd2 : s.drop (a + (txD v).length).toNat = r := by
      rw [show (a + ((txD v).length : Int)).toNat = a.toNat + (txD v).length by omega, ← List.drop_drop, hd, List.drop_left]
    rcases hr with ⟨rfl, rfl⟩ | ⟨hne, rfl⟩
    · rw [lex_join s [] m (a + (txD v).length) _ rfl rfl (by omega) (by simp at hlen; omega) hd2 (by omega)]
      simp [placed]
    · have hlen2 : s.length - a.toNat = (txD v).length + ((joinX l).length + 1) := hlen
      have hat : (s.length - a).toNat = s.length - a.toNat := by omega
      have ham : (a.toNat : Int) = a := Int.toNat_of_nonneg h0
      obtain ⟨m, rfl⟩ : ∃ x, m = x + 1 := ⟨m - 1, by omega⟩
      have hc2 : chr s (a + (txD v).length) = 32 := by
        have := chr_drop s (a + (txD v).length).toNat 0 (by omega)
        rw [hd2] at this
        have e : (((a + ((txD v).length : Int)).toNat : Int) + 0) = a + (txD v).length := by omega
        rw [e] at this
        rw [← this]; rfl
      have hd3 : s.drop (a + (txD v).length + 1).toNat = joinX l := by
        rw [show (a + ((txD v).length : Int) + 1).toNat = (a + ((txD v).length : Int)).toNat + 1 by omega, ← List.drop_drop, hd2]
        rfl
      have step2 : ∀ o, lexGo s (m + 1) (a + (txD v).length) o = lexGo s m (a + (txD v).length + 1) o := by
        intro o
        simp only [lexGo]
        rw [if_pos (by omega), hc2, if_pos (by decide)]
      rw [step2, lex_join s l m (a + (txD v).length + 1) _ hg.2 hk.2 (by omega) (by omega) hd3 (by omega)]
      simp [placed]
theorem lexR_join (l : List DV) (hg : l.all goodD = true) (hk : l.all okD = true) (hl : (joinX l).length ≤ 2000) : lexR (joinX l) = ⟨placed 0 l, (joinX l).length, 0, (joinX l).length⟩ := by
  unfold lexR
  rw [if_neg (by omega)]
  exact lex_join (joinX l) l FU 0 [] hg hk (by omega) (by omega) rfl (by unfold FU; omega)
theorem placed_gt (l : List DV) : ∀ (a : Int) (i j : Nat), j < 3 → i < l.length → (atI (placed a l) i j = if j = 1 then 0 else cI (gt .nili l i) j) ∧ (j = 1 → atS (placed a l) i j = cS (gt .nili l i) j) := by
  induction l with
  | nil => intro a i j _ h; simp at h
  | cons v l ih =>
    intro a i j hj hi
    cases i with
    | zero =>
      match j, hj with
      | 0, _ => exact ⟨rfl, fun h => by cases h⟩
      | 1, _ => exact ⟨rfl, fun _ => rfl⟩
      | 2, _ => exact ⟨rfl, fun h => by cases h⟩
    | succ i => exact ih _ i j hj (by simpa using hi)
theorem same_placed (l : List DV) (a : Int) : ∀ (m : Nat) (i : Int), 0 ≤ i → sameTo false l (placed a l) m i = true ∧ sameTo false (placed a l) l m i = true := by
  intro m
  induction m with
  | zero => intro i _; exact ⟨rfl, rfl⟩
  | succ m ih =>
    intro i h0
    have e := placed_len l a
    simp only [sameTo]
    by_cases hi : i < l.length
    · obtain ⟨i1, i2⟩ := ih (i + 1) (by omega)
      have p0 := (placed_gt l a i.toNat 0 (by omega) (by omega)).1
      have p1 := (placed_gt l a i.toNat 1 (by omega) (by omega)).2 rfl
      have p2 := (placed_gt l a i.toNat 2 (by omega) (by omega)).1
      rw [if_neg (by omega)] at p0 p2
      have s1 : sameB false l (placed a l) i.toNat = true := by
        unfold sameB
        rw [p0, p1, p2, atI_c, atI_c, atS_c]; simp
      have s2 : sameB false (placed a l) l i.toNat = true := by
        unfold sameB
        rw [p0, p1, p2, atI_c, atI_c, atS_c]; simp
      rw [if_pos hi, if_pos s1, if_pos (by rw [e]; exact hi), if_pos s2]
      exact ⟨i1, i2⟩
    · rw [if_neg hi, if_neg (by rw [e]; exact hi)]
      exact ⟨rfl, rfl⟩
end Go.PS
end

section
namespace Go.PS
open Go.Proofs
def S15u : List PV → Tr PV
  | [.d (.slc 4 xs), .d (.slc 4 ys), .d (.bool p)] => .chk (allTok xs && allTok ys && decide (xs.length ≤ big)) (.ok (.d (.bool (decide (xs.length = ys.length) && sameTo p xs ys FU 0))))
  | _ => .no
theorem ok15u (W0 : World) : EKOk Tryd.prog W0 15 (.pure S15u) := ek_mono (ok15 W0) fun args v h => by
  unfold S15u at h
  unfold S15
  split at h
  · rename_i xs ys p
    simp only [Tr.val_chk, Tr.val_ok, Tr.val_cnd, chk_some, Option.some.injEq] at h ⊢
    obtain ⟨h0, rfl⟩ := h
    refine ⟨h0, ?_⟩
    by_cases e : xs.length = ys.length
    · rw [cnd_p e, decide_eq_true e]; rfl
    · rw [cnd_n e, decide_eq_false e]; rfl
  · simp [Tr.val_no] at h
def S11 : List PV → Tr PV
  | [.d (.slc 4 xs), .d (.str _)] => .chk (xs.all okD) (.ok (.d (.bool true)))
  | _ => .no
end Go.PS
end

section
namespace Go.PS
open Go.Proofs
set_option maxRecDepth 100000
/-! fasti fastilaw16.TokenBack -/
theorem fn11 : FnOk Tryd.prog 11 106 [.tmp 4] (body Tryd.f11) := ⟨Tryd.f11, Tryd.func11, bodySome _ (by kernel_rfl), by kernel_rfl, by kernel_rfl, by kernel_rfl, by kernel_rfl⟩
theorem run11 (F : Nat) (xs : List DV) (s : List UInt8) : runP (ctx F [(12, .pure S12), (13, .pure S13p), (15, .pure S15u), (31, .pure S31), (35, .pure S35)]) noL 106 [.tmp 4] (body Tryd.f11) [.d (.slc 4 xs), .d (.str s)] =
    Tr.val
      (.chk (xs.all okD)
      (.cnd (!fewB xs)
        (.ok (PV.d (DV.bool true)))
        (.cnd (decide ((↑s.length : Int) > 5000))
          (.ok (PV.d (DV.bool true)))
          (.chk (xs.all okD && xs.all shortD && decide (xs.length ≤ big))
          (.cnd (decide (joinE xs = 0))
            (.chk (decide ((joinT xs).length ≤ big))
            (.chk (allTok xs && allTok (lexT (joinT xs)) && decide (xs.length ≤ big))
            (.cnd (!(decide (xs.length = (lexT (joinT xs)).length) && sameTo false xs (lexT (joinT xs)) FU 0))
              (.ok (PV.d (DV.bool false)))
              (.cnd (!decide ((lexR (joinT xs)).pos = (↑(joinT xs).length : Int)))
                (.ok (PV.d (DV.bool false)))
                (.cnd (!decide ((lexR (joinT xs)).err = 0))
                  (.ok (PV.d (DV.bool false)))
                  (.chk (decide (s.length ≤ big))
                  (.cnd (!decide ((lexR s).err = 0))
                    (.cnd (decide ((↑(lexT s).length : Int) = 0))
                      (.cnd (decide ((lexR s).pos ≥ 0))
                        (.cnd (decide ((lexR s).pos ≤ (↑s.length : Int)))
                          (.ok (PV.d (DV.bool true)))
                          (.ok (PV.d (DV.bool false))))
                        (.ok (PV.d (DV.bool false))))
                      (.ok (PV.d (DV.bool false))))
                    (.chk ((lexT s).all okD && (lexT s).all shortD && decide ((lexT s).length ≤ big))
                    (.cnd (!decide (joinE (lexT s) = 0))
                      (.cnd (decide (joinE (lexT s) = 5))
                        (.ok (PV.d (DV.bool true)))
                        (.ok (PV.d (DV.bool false))))
                      (.chk (decide ((joinT (lexT s)).length ≤ big))
                      (.chk (allTok (lexT (joinT (lexT s))) && allTok (lexT s) && decide ((lexT (joinT (lexT s))).length ≤ big))
                      (.cnd (decide ((lexT (joinT (lexT s))).length = (lexT s).length) && sameTo false (lexT (joinT (lexT s))) (lexT s) FU 0)
                        (.cnd (decide ((lexR (joinT (lexT s))).err = 0))
                          (.ok (PV.d (DV.bool true)))
                          (.ok (PV.d (DV.bool false))))
                        (.ok (PV.d (DV.bool false)))))))))))))))
            (.chk (decide (s.length ≤ big))
            (.cnd (!decide ((lexR s).err = 0))
              (.cnd (decide ((↑(lexT s).length : Int) = 0))
                (.cnd (decide ((lexR s).pos ≥ 0))
                  (.cnd (decide ((lexR s).pos ≤ (↑s.length : Int)))
                    (.ok (PV.d (DV.bool true)))
                    (.ok (PV.d (DV.bool false))))
                  (.ok (PV.d (DV.bool false))))
                (.ok (PV.d (DV.bool false))))
              (.chk ((lexT s).all okD && (lexT s).all shortD && decide ((lexT s).length ≤ big))
              (.cnd (!decide (joinE (lexT s) = 0))
                (.cnd (decide (joinE (lexT s) = 5))
                  (.ok (PV.d (DV.bool true)))
                  (.ok (PV.d (DV.bool false))))
                (.chk (decide ((joinT (lexT s)).length ≤ big))
                (.chk (allTok (lexT (joinT (lexT s))) && allTok (lexT s) && decide ((lexT (joinT (lexT s))).length ≤ big))
                (.cnd (decide ((lexT (joinT (lexT s))).length = (lexT s).length) && sameTo false (lexT (joinT (lexT s))) (lexT s) FU 0)
                  (.cnd (decide ((lexR (joinT (lexT s))).err = 0))
                    (.ok (PV.d (DV.bool true)))
                    (.ok (PV.d (DV.bool false))))
                  (.ok (PV.d (DV.bool false))))))))))))))) := by kernel_rfl
end Go.PS
end

section
namespace Go.PS
open Go.Proofs
set_option linter.unusedSimpArgs false
theorem few_shortJ {l : List DV} (h : fewL l = true) : l.all shortD = true := by
  unfold fewL at h
  rw [List.all_eq_true] at h ⊢
  intro v hv
  have := h v hv
  unfold shortD big
  rw [decide_eq_true_eq] at this ⊢
  omega
theorem okD_tok : ∀ {l : List DV}, l.all okD = true → allTok l = true
  | [], _ => rfl
  | v :: l, h => by
    simp only [List.all_cons, Bool.and_eq_true] at h
    simp only [allTok, Bool.and_eq_true]
    exact ⟨(okD_p h.1).1, okD_tok h.2⟩
theorem stand_all (s : List UInt8) (k : Int) : ∀ (xs ys : List DV) (fin : Int), standB s k xs ys fin = true → xs.all okD = true ∧ xs.all shortD = true ∧ xs.all goodD = true
  | [], _, _, _ => ⟨rfl, rfl, rfl⟩
  | x :: xs, [], _, h => by simp [standB] at h
  | x :: xs, y :: ys, fin, h => by
    simp only [standB, Bool.and_eq_true] at h
    obtain ⟨⟨⟨⟨⟨⟨⟨⟨⟨b1, b2⟩, b3⟩, b4⟩, b5⟩, b6⟩, b7⟩, b8⟩, b9⟩, b10⟩ := h
    obtain ⟨i1, i2, i3⟩ := stand_all s k xs ys _ b10
    simp only [List.all_cons, b1, b2, b3, i1, i2, i3, Bool.and_self, and_self]
theorem lexT_all (s : List UInt8) (hb : s.length ≤ big) : (lexT s).all okD = true ∧ (lexT s).all shortD = true ∧ (lexT s).all goodD = true := stand_all s 0 _ _ 0 (lexT_stand s 0 hb)
theorem lex_back (l : List DV) (hk : l.all okD = true) (he : joinE l = 0) : joinT l = joinX l ∧ (joinX l).length ≤ 2000 ∧ lexT (joinT l) = placed 0 l ∧ (lexR (joinT l)).pos = (joinT l).length ∧ (lexR (joinT l)).err = 0 := by
  unfold joinE at he
  split at he
  · rename_i hg
    split at he
    · cases he
    · rename_i hl
      have e1 : joinT l = joinX l := by unfold joinT; rw [if_pos ⟨hg, by omega⟩]
      have e2 := lexR_join l hg hk (by omega)
      rw [e1]
      refine ⟨rfl, by omega, ?_, ?_, ?_⟩
      · unfold lexT; rw [e2]; rfl
      · rw [e2]
      · rw [e2]
  · cases he
theorem joinE_good (l : List DV) (hg : l.all goodD = true) : joinE l = 0 ∨ joinE l = 5 := by
  unfold joinE
  rw [if_pos hg]
  split
  · exact .inr rfl
  · exact .inl rfl
theorem lexT_err {s : List UInt8} (h : (lexR s).err ≠ 0) : lexT s = [] := by unfold lexT; rw [if_neg h]
theorem ok11 (W0 : World) (hW : Laid W0) : EKOk Tryd.prog W0 11 (.pure S11) := by
  refine pure_of (tyOk FU [(12, .pure S12), (13, .pure S13p), (15, .pure S15u), (31, .pure S31), (35, .pure S35)]) (look_ok (all_cons (ok12 W0 hW) (all_cons (ok13p W0 hW) (all_cons (ok15u W0) (all_cons (ok31 W0) (all_cons (ok35 W0 hW) all_nil)))))) mixed fn11 (lpsOk_no _ _) fun args r h => ?_
  unfold S11 at h
  split at h
  · rename_i xs s
    refine (run11 FU xs s).trans ?_
    rw [← h]
    simp only [Tr.val_chk, chk_some] at h
    obtain ⟨h0, _⟩ := h
    simp only [Tr.val_ok, Tr.val_cnd, Tr.val_chk, h0, chk_tt, Bool.true_and]
    cases hf : fewB xs with
    | false => rfl
    | true =>
    show cnd (decide ((s.length : Int) > 5000)) _ _ = _
    by_cases hs : (s.length : Int) > 5000
    · rw [cnd_p hs]
    rw [cnd_n hs]
    unfold fewB at hf
    simp only [Bool.and_eq_true, decide_eq_true_eq] at hf
    have hsh := few_shortJ hf.2
    have hb : xs.length ≤ big := by unfold big; omega
    have hsb : s.length ≤ big := by unfold big; omega
    have tk := okD_tok h0
    have tail : ∀ (x : Option PV), x = some (PV.d (DV.bool true)) → x = some (PV.d (DV.bool true)) := fun _ h => h
    -- the second half
    have second : (chk (decide (s.length ≤ big))
            (cnd (!decide ((lexR s).err = 0))
              (cnd (decide (((lexT s).length : Int) = 0))
                (cnd (decide ((lexR s).pos ≥ 0))
                  (cnd (decide ((lexR s).pos ≤ (s.length : Int)))
                    (some (PV.d (DV.bool true)))
                    (some (PV.d (DV.bool false))))
                  (some (PV.d (DV.bool false))))
                (some (PV.d (DV.bool false))))
              (chk ((lexT s).all okD && (lexT s).all shortD && decide ((lexT s).length ≤ big))
              (cnd (!decide (joinE (lexT s) = 0))
                (cnd (decide (joinE (lexT s) = 5))
                  (some (PV.d (DV.bool true)))
                  (some (PV.d (DV.bool false))))
                (chk (decide ((joinT (lexT s)).length ≤ big))
                (chk (allTok (lexT (joinT (lexT s))) && allTok (lexT s) && decide ((lexT (joinT (lexT s))).length ≤ big))
                (cnd (decide ((lexT (joinT (lexT s))).length = (lexT s).length) && sameTo false (lexT (joinT (lexT s))) (lexT s) FU 0)
                  (cnd (decide ((lexR (joinT (lexT s))).err = 0))
                    (some (PV.d (DV.bool true)))
                    (some (PV.d (DV.bool false))))
                  (some (PV.d (DV.bool false)))))))))) = some (PV.d (DV.bool true)) := by
      rw [chk_p hsb]
      obtain ⟨p1, p2⟩ := lexR_pos s
      by_cases e : (lexR s).err = 0
      · rw [decide_eq_true e]
        obtain ⟨a1, a2, a3⟩ := lexT_all s hsb
        have fw := lexT_few s hsb
        rw [show (!true) = false from rfl, cnd_f rfl, a1, a2, chk_t (by simpa using fw)]
        rcases joinE_good _ a3 with j | j
        · obtain ⟨b1, b2, b3, b4, b5⟩ := lex_back _ a1 j
          rw [decide_eq_true j, show (!true) = false from rfl, cnd_f rfl, chk_p (by rw [b1]; unfold big; omega), b3, placed_tok, okD_tok a1, placed_len, chk_t (by simpa using fw)]
          rw [decide_eq_true rfl, (same_placed (lexT s) 0 FU 0 (by omega)).2, b5]
          rfl
        · rw [decide_eq_false (show ¬ joinE (lexT s) = 0 by omega), show (!false) = true from rfl, cnd_t rfl, cnd_p j]
      · rw [decide_eq_false e, show (!false) = true from rfl, cnd_t rfl, lexT_err e, cnd_p (p := (([] : List DV).length : Int) = 0) rfl, cnd_p (show (lexR s).pos ≥ 0 from p1), cnd_p p2]
    rw [second]
    rw [hsh, chk_t (by simpa using hb)]
    by_cases j : joinE xs = 0
    · obtain ⟨b1, b2, b3, b4, b5⟩ := lex_back _ h0 j
      rw [cnd_p j, chk_p (by rw [b1]; unfold big; omega), b3, tk, placed_tok, placed_len, chk_t (by simpa using hb), decide_eq_true rfl, (same_placed xs 0 FU 0 (by omega)).1, b4, b5, decide_eq_true (p := ((joinT xs).length : Int) = ((joinT xs).length : Int)) rfl]
      rfl
    · rw [cnd_n j]
  · simp [Tr.val_no] at h
end Go.PS
end
