/- PROVED: fastilaw01.ValueCuts returns true for every string (what can't be a value's text for its form goes wrong just there: what stands ahead of that place can go on; at the end it is only too short), the argument reads as it did, and nothing that was there is changed.
   CONDITIONS: only the row's own: the listed package-level variables hold what the program's text lays into them (the card ties them to that text). -/
import Derived.Test.YtihpkebhgkfiaaaDoorVaC
import Derived.Test.YtihpkebhgkfiaaaDoorCards
set_option linter.all false
section
namespace Go.PS
open Go.Proofs
set_option maxRecDepth 100000
/-! fasti fastilaw01.ValueCuts -/
theorem fn6 : FnOk Tryd.prog 6 69 [.tmp 2] (body Tryd.f6) := ⟨Tryd.f6, Tryd.func6, bodySome _ (by kernel_rfl), by kernel_rfl, by kernel_rfl, by kernel_rfl, by kernel_rfl⟩
theorem run6 (F : Nat) (s : List UInt8) : runP (ctx F [(16, .pure S16), (17, .pure S17)]) noL 69 [.tmp 2] (body Tryd.f6) [.d (.str s)] =
    Tr.val
      (.cnd (decide ((↑s.length : Int) > 5000))
        (.ok (PV.d (DV.bool true)))
        (.chk (decide (s.length ≤ big))
        (.cnd (!decide ((parseR s).err = 4))
          (.cnd (!decide ((parseR s).err = 3))
            (.ok (PV.d (DV.bool true)))
            (.cnd (decide ((parseR s).pos < 0))
              (.ok (PV.d (DV.bool false)))
              (.cnd (decide ((parseR s).pos > (↑s.length : Int)))
                (.ok (PV.d (DV.bool false)))
                (.chk (decide ((↑0 : Int) ≤ (parseR s).pos))
                (.chk (decide ((parseR s).pos ≤ (↑s.length : Int)))
                (.chk (decide ((List.drop (↑0 : Int).toNat (List.take (parseR s).pos.toNat s)).length ≤ big))
                (.cnd (decide ((parseR s).err = 3))
                  (.cnd (decide ((parseR s).pos = (↑s.length : Int)))
                    (.ok (PV.d (DV.bool true)))
                    (.ok (PV.d (DV.bool false))))
                  (.cnd (decide ((parseR (List.drop (↑0 : Int).toNat (List.take (parseR s).pos.toNat s))).err = 0))
                    (.ok (PV.d (DV.bool true)))
                    (.cnd (decide ((parseR (List.drop (↑0 : Int).toNat (List.take (parseR s).pos.toNat s))).err = 5))
                      (.ok (PV.d (DV.bool true)))
                      (.cnd (decide ((parseR (List.drop (↑0 : Int).toNat (List.take (parseR s).pos.toNat s))).err = 3))
                        (.cnd (decide ((parseR (List.drop (↑0 : Int).toNat (List.take (parseR s).pos.toNat s))).pos = (parseR s).pos))
                          (.ok (PV.d (DV.bool true)))
                          (.ok (PV.d (DV.bool false))))
                        (.ok (PV.d (DV.bool false)))))))))))))
          (.cnd (decide ((parseR s).pos < 0))
            (.ok (PV.d (DV.bool false)))
            (.cnd (decide ((parseR s).pos > (↑s.length : Int)))
              (.ok (PV.d (DV.bool false)))
              (.chk (decide ((↑0 : Int) ≤ (parseR s).pos))
              (.chk (decide ((parseR s).pos ≤ (↑s.length : Int)))
              (.chk (decide ((List.drop (↑0 : Int).toNat (List.take (parseR s).pos.toNat s)).length ≤ big))
              (.cnd (decide ((parseR s).err = 3))
                (.cnd (decide ((parseR s).pos = (↑s.length : Int)))
                  (.ok (PV.d (DV.bool true)))
                  (.ok (PV.d (DV.bool false))))
                (.cnd (decide ((parseR (List.drop (↑0 : Int).toNat (List.take (parseR s).pos.toNat s))).err = 0))
                  (.ok (PV.d (DV.bool true)))
                  (.cnd (decide ((parseR (List.drop (↑0 : Int).toNat (List.take (parseR s).pos.toNat s))).err = 5))
                    (.ok (PV.d (DV.bool true)))
                    (.cnd (decide ((parseR (List.drop (↑0 : Int).toNat (List.take (parseR s).pos.toNat s))).err = 3))
                      (.cnd (decide ((parseR (List.drop (↑0 : Int).toNat (List.take (parseR s).pos.toNat s))).pos = (parseR s).pos))
                        (.ok (PV.d (DV.bool true)))
                        (.ok (PV.d (DV.bool false))))
                      (.ok (PV.d (DV.bool false))))))))))))))) := by kernel_rfl
end Go.PS
end

section
namespace Go.PS
open Go.Proofs
def S6 : List PV → Tr PV
  | [.d (.str _)] => .ok (.d (.bool true))
  | _ => .no
/-- ValueCuts in plain words: where a text goes wrong, and what stands ahead of that place -/
def CutsLaw (s : List UInt8) : Prop :=
  ((parseR s).err = 3 → (parseR s).pos = s.length) ∧
  ((parseR s).err = 4 → 0 ≤ (parseR s).pos ∧ (parseR s).pos ≤ s.length ∧
    ((parseR (s.take (parseR s).pos.toNat)).err = 0 ∨ (parseR (s.take (parseR s).pos.toNat)).err = 5 ∨
      ((parseR (s.take (parseR s).pos.toNat)).err = 3 ∧ (parseR (s.take (parseR s).pos.toNat)).pos = (parseR s).pos)))

theorem ok6_of (hlaw : ∀ s : List UInt8, s.length ≤ big → CutsLaw s) (W0 : World) (hW : Laid W0) : EKOk Tryd.prog W0 6 (.pure S6) := by
  refine pure_of (tyOk 0 [(16, .pure S16), (17, .pure S17)]) (look_ok (all_cons (ok16 W0 hW) (all_cons (ok17 W0 hW) all_nil))) mixed fn6 (lpsOk_no _ _) fun args r h => ?_
  unfold S6 at h
  split at h
  · rename_i s
    refine (run6 0 s).trans ?_
    rw [← h]
    simp only [Tr.val_ok, Tr.val_cnd, Tr.val_chk]
    by_cases hl : (s.length : Int) > 5000
    · rw [cnd_p hl]
    · have hb : s.length ≤ big := by unfold big; omega
      obtain ⟨l3, l4⟩ := hlaw s hb
      rw [cnd_n hl, chk_p hb]
      have hd : List.drop (0 : Int).toNat (List.take (parseR s).pos.toNat s) = List.take (parseR s).pos.toNat s := rfl
      rw [hd]
      have ht : (List.take (parseR s).pos.toNat s).length ≤ big := by rw [List.length_take]; omega
      generalize parseR (List.take (parseR s).pos.toNat s) = g at *
      generalize parseR s = f at *
      by_cases e4 : f.err = 4
      · obtain ⟨p0, p1, hc⟩ := l4 e4
        have e3 : ¬ f.err = 3 := by omega
        simp only [e4, decide_true, Bool.not_true, cnd_ff]
        rw [cnd_n (p := f.pos < 0) (by omega), cnd_n (p := f.pos > (s.length : Int)) (by omega), chk_p (p := (0 : Int) ≤ f.pos) p0, chk_p (p := f.pos ≤ (s.length : Int)) p1, chk_p ht]
        rw [cnd_n (p := (4 : Int) = 3) (by omega)]
        rcases hc with c | c | ⟨c, c'⟩
        · rw [cnd_p (p := g.err = 0) c]
        · rw [cnd_n (p := g.err = 0) (by omega), cnd_p (p := g.err = 5) c]
        · rw [cnd_n (p := g.err = 0) (by omega), cnd_n (p := g.err = 5) (by omega), cnd_p (p := g.err = 3) c, cnd_p (p := g.pos = f.pos) c']
      · by_cases e3 : f.err = 3
        · have p := l3 e3
          simp only [e3, decide_true, Bool.not_true, cnd_ff]
          rw [show (!decide ((3 : Int) = 4)) = true from rfl, cnd_tt]
          rw [cnd_n (p := f.pos < 0) (by omega), cnd_n (p := f.pos > (s.length : Int)) (by omega), chk_p (p := (0 : Int) ≤ f.pos) (by omega), chk_p (p := f.pos ≤ (s.length : Int)) (by omega), chk_p ht]
          simp only [cnd_tt]
          rw [cnd_p (p := f.pos = (s.length : Int)) p]
        · simp only [e4, e3, decide_false, Bool.not_false, cnd_tt]
  · simp [Tr.val_no] at h
end Go.PS
end

section
namespace Go.PS
open Go.Proofs

theorem chr_take (s : List UInt8) (p : Nat) (i : Int) (h0 : 0 ≤ i) (h : i < p) : chr (s.take p) i = chr s i := by
  rw [← chr_fold, ← chr_fold]
  have : (s.take p).getD i.toNat 0 = s.getD i.toNat 0 := by
    simp only [List.getD_eq_getElem?_getD]
    rw [List.getElem?_take, if_pos (by omega)]
  rw [this]
theorem len_take (s : List UInt8) (p : Int) (h0 : 0 ≤ p) (h : p ≤ s.length) : ((s.take p.toNat).length : Int) = p := by
  rw [List.length_take]; omega

theorem digTo_take (s : List UInt8) : ∀ (m : Nat) (i : Int), 0 ≤ i → i ≤ s.length → i ≤ digTo s m i ∧ digTo s m i ≤ s.length ∧ digTo (s.take (digTo s m i).toNat) m i = digTo s m i
  | 0, i, h0, h => ⟨by simp [digTo], by simpa [digTo] using h, rfl⟩
  | m + 1, i, h0, h => by
    have e : digTo s (m + 1) i = if i < s.length ∧ isDigit (chr s i) = true then digTo s m (i + 1) else i := rfl
    rw [e]
    by_cases c : i < s.length ∧ isDigit (chr s i) = true
    · rw [if_pos c]
      obtain ⟨h1, h2, h3⟩ := digTo_take s m (i + 1) (by omega) (by omega)
      refine ⟨by omega, h2, ?_⟩
      generalize hp : digTo s m (i + 1) = p at *
      have e2 : digTo (s.take p.toNat) (m + 1) i = if i < (s.take p.toNat).length ∧ isDigit (chr (s.take p.toNat) i) = true then digTo (s.take p.toNat) m (i + 1) else i := rfl
      rw [e2, len_take s p (by omega) h2, chr_take s p.toNat i h0 (by omega), if_pos ⟨by omega, c.2⟩]
      exact h3
    · rw [if_neg c]
      refine ⟨Int.le_refl _, h, ?_⟩
      have e2 : digTo (s.take i.toNat) (m + 1) i = if i < (s.take i.toNat).length ∧ isDigit (chr (s.take i.toNat) i) = true then digTo (s.take i.toNat) m (i + 1) else i := rfl
      rw [e2, len_take s i h0 h, if_neg (by omega)]

/-- the law's answer at a result -/
def CutsAt (P : List UInt8 → VR) (s : List UInt8) : Prop :=
  ((P s).err = 3 → (P s).pos = s.length) ∧
  ((P s).err = 4 → 0 ≤ (P s).pos ∧ (P s).pos ≤ s.length ∧
    ((P (s.take (P s).pos.toNat)).err = 0 ∨ (P (s.take (P s).pos.toNat)).err = 5 ∨
      ((P (s.take (P s).pos.toNat)).err = 3 ∧ (P (s.take (P s).pos.toNat)).pos = (P s).pos)))

theorem numAt_cases (s : List UInt8) : (chr s 0 = 45 ∧ numAt s = 1) ∨ (¬ chr s 0 = 45 ∧ numAt s = 0) := by
  unfold numAt
  by_cases h : chr s 0 = 45
  · exact .inl ⟨h, if_pos h⟩
  · exact .inr ⟨h, if_neg h⟩
theorem numAt_take (s : List UInt8) (p : Nat) (h : 1 ≤ p) : numAt (s.take p) = numAt s := by
  unfold numAt; rw [chr_take s p 0 (by omega) (by omega)]

theorem num_cuts (s : List UInt8) (hl : 0 < s.length) (h : chr s 0 = 45 ∨ isDigit (chr s 0) = true) :
    ((numR s).err = 3 → (numR s).pos = s.length) ∧
    ((numR s).err = 4 → 1 ≤ (numR s).pos ∧ (numR s).pos ≤ s.length ∧
      ((numR (s.take (numR s).pos.toNat)).err = 0 ∨ (numR (s.take (numR s).pos.toNat)).err = 5 ∨
        ((numR (s.take (numR s).pos.toNat)).err = 3 ∧ (numR (s.take (numR s).pos.toNat)).pos = (numR s).pos))) := by
  have hc := numAt_cases s
  by_cases c1 : ¬ (numAt s < s.length ∧ isDigit (chr s (numAt s)) = true) ∨ (chr s (numAt s) = 48 ∧ numAt s = 1)
  · have e : numR s = ⟨0, 0, [], failN s (numAt s), failE s (numAt s), numAt s, false⟩ := by unfold numR; rw [if_pos c1]
    rw [e]
    have hn : numAt s = 1 := by
      rcases hc with ⟨_, hn⟩ | ⟨h0, hn⟩
      · exact hn
      · exfalso
        rw [hn] at c1
        rcases c1 with c1 | c1
        · exact c1 ⟨by omega, h.resolve_left h0⟩
        · omega
    refine ⟨fun h3 => ?_, fun h4 => ?_⟩
    · show failN s (numAt s) = _
      have h3 : failE s (numAt s) = 3 := h3
      unfold failE at h3
      unfold failN
      split at h3
      · omega
      · rename_i hlt; rw [if_neg hlt]
    · have h4 : failE s (numAt s) = 4 := h4
      unfold failE at h4
      have hlt : numAt s < s.length := by
        split at h4
        · assumption
        · omega
      have hp : failN s (numAt s) = 1 := by unfold failN; rw [if_pos hlt, hn]
      show 1 ≤ failN s (numAt s) ∧ failN s (numAt s) ≤ s.length ∧ _
      rw [hp]
      refine ⟨by omega, by omega, .inr (.inr ?_)⟩
      have e1 : numAt (s.take (1 : Int).toNat) = 1 := by rw [numAt_take s _ (by decide)]; exact hn
      have l1 : ((s.take (1 : Int).toNat).length : Int) = 1 := len_take s 1 (by omega) (by omega)
      have e2 : numR (s.take (1 : Int).toNat) = ⟨0, 0, [], failN (s.take (1 : Int).toNat) 1, failE (s.take (1 : Int).toNat) 1, 1, false⟩ := by
        unfold numR; rw [e1, if_pos (.inl (by rw [l1]; omega))]
      rw [e2]
      refine ⟨?_, ?_⟩
      · show failE _ 1 = 3
        unfold failE; rw [if_neg (by rw [l1]; omega)]
      · show failN _ 1 = 1
        unfold failN; rw [if_neg (by rw [l1]; omega)]; exact l1
  · have c1' : (numAt s < s.length ∧ isDigit (chr s (numAt s)) = true) ∧ ¬ (chr s (numAt s) = 48 ∧ numAt s = 1) := by
      refine ⟨Classical.byContradiction fun h => c1 (.inl h), fun h => c1 (.inr h)⟩
    by_cases c2 : chr s (numAt s) = 48
    · have hn : numAt s = 0 := by
        rcases hc with ⟨_, hn⟩ | ⟨_, hn⟩
        · exact absurd ⟨c2, hn⟩ c1'.2
        · exact hn
      by_cases c3 : 1 < s.length
      · have e : numR s = ⟨0, 0, [], 1, 4, 1, false⟩ := by unfold numR; rw [if_neg c1, if_pos c2, if_pos c3]
        rw [e]
        refine ⟨fun h3 => by simp at h3, fun _ => ⟨by decide, by show (1 : Int) ≤ _; omega, .inl ?_⟩⟩
        show (numR (s.take 1)).err = 0
        have l1 : (s.take 1).length = 1 := by rw [List.length_take]; omega
        have e1 : numAt (s.take 1) = 0 := by rw [numAt_take s _ (by decide)]; exact hn
        have e3 : chr (s.take 1) 0 = chr s 0 := chr_take s 1 0 (by omega) (by omega)
        rw [hn] at c1' c2
        unfold numR
        rw [e1, e3, if_neg (by rw [l1]; rintro (h | h); exact h ⟨by omega, c1'.1.2⟩; omega), if_pos c2, if_neg (by omega)]
      · have e : numR s = ⟨1, 0, [], 1, 0, 1, false⟩ := by unfold numR; rw [if_neg c1, if_pos c2, if_neg c3]
        rw [e]
        exact ⟨fun h3 => by simp at h3, fun h4 => by simp at h4⟩
    · by_cases c3 : digTo s FU (numAt s + 1) < s.length
      · have e : numR s = ⟨0, 0, [], digTo s FU (numAt s + 1), 4, digTo s FU (numAt s + 1), false⟩ := by unfold numR; rw [if_neg c1, if_neg c2, if_pos c3]
        rw [e]
        have hn0 : 0 ≤ numAt s := by rcases hc with ⟨_, hn⟩ | ⟨_, hn⟩ <;> omega
        obtain ⟨d1, d2, d3⟩ := digTo_take s FU (numAt s + 1) (by omega) (by omega)
        refine ⟨fun h3 => by simp at h3, fun _ => ?_⟩
        dsimp only
        generalize hp : digTo s FU (numAt s + 1) = p at *
        refine ⟨by omega, d2, ?_⟩
        have l1 : ((s.take p.toNat).length : Int) = p := len_take s p (by omega) d2
        have e1 : numAt (s.take p.toNat) = numAt s := numAt_take s _ (by omega)
        have e2 : chr (s.take p.toNat) (numAt s) = chr s (numAt s) := chr_take s _ _ hn0 (by omega)
        have e4 : numR (s.take p.toNat) = if atoiOk (s.take p.toNat) = true then ⟨1, atoiV (s.take p.toNat), [], (s.take p.toNat).length, 0, (s.take p.toNat).length, false⟩ else ⟨0, 0, [], 0, 5, (s.take p.toNat).length, false⟩ := by
          unfold numR
          rw [e1, e2, if_neg (by rw [l1]; rintro (h | h); exact h ⟨by omega, c1'.1.2⟩; exact c1'.2 h), if_neg c2, if_neg (by rw [d3, l1]; omega)]
        rw [e4]
        by_cases o : atoiOk (s.take p.toNat) = true
        · rw [if_pos o]; exact .inl rfl
        · rw [if_neg o]; exact .inr (.inl rfl)
      · by_cases o : atoiOk s = true
        · have e : numR s = ⟨1, atoiV s, [], s.length, 0, s.length, false⟩ := by unfold numR; rw [if_neg c1, if_neg c2, if_neg c3, if_pos o]
          rw [e]; exact ⟨fun h3 => by simp at h3, fun h4 => by simp at h4⟩
        · have e : numR s = ⟨0, 0, [], 0, 5, s.length, false⟩ := by unfold numR; rw [if_neg c1, if_neg c2, if_neg c3, if_neg o]
          rw [e]; exact ⟨fun h3 => by simp at h3, fun h4 => by simp at h4⟩
end Go.PS
end

section
namespace Go.PS
open Go.Proofs

theorem byt_take (s : List UInt8) (p k : Nat) (h : k < p) : byt (s.take p) k = byt s k := by
  unfold byt
  simp only [List.getD_eq_getElem?_getD]
  rw [List.getElem?_take, if_pos h]
theorem wGo_take (s : List UInt8) (p : Nat) (a n : Int) (h0 : 0 ≤ a) (hp : a + n ≤ p) (hl : p ≤ s.length) : ∀ (m : Nat) (i c : Int), 0 ≤ i → wGo (s.take p) a n m i c = wGo s a n m i c
  | 0, _, _, _ => rfl
  | m + 1, i, c, hi => by
    have e : ∀ s' : List UInt8, wGo s' a n (m + 1) i c = if i < n then (if a + i < s'.length ∧ chr s' (a + i) / 64 = 2 then wGo s' a n m (i + 1) (64 * c + chr s' (a + i) % 64) else (false, c)) else (true, c) := fun _ => rfl
    rw [e, e]
    by_cases c1 : i < n
    · rw [if_pos c1, if_pos c1]
      have l1 : ((s.take p).length : Int) = p := by rw [List.length_take]; omega
      rw [chr_take s p (a + i) (by omega) (by omega), wGo_take s p a n h0 hp hl m (i + 1) _ (by omega), l1]
      by_cases c2 : chr s (a + i) / 64 = 2
      · rw [if_pos ⟨by omega, c2⟩, if_pos ⟨by omega, c2⟩]
      · rw [if_neg (fun h => c2 h.2), if_neg (fun h => c2 h.2)]
    · rw [if_neg c1, if_neg c1]
theorem wAll_take (s : List UInt8) (p : Nat) (a n i c : Int) (h0 : 0 ≤ a) (hi : 0 ≤ i) (hp : a + n ≤ p) (hl : p ≤ s.length) : wAll (s.take p) a n i c = wAll s a n i c :=
  wGo_take s p a n h0 hp hl _ i c hi
theorem wOf_cases (n l : Int) (x : Bool × Int) : wOf n l x = n ∨ wOf n l x = 0 := by
  unfold wOf
  split
  · split
    · exact .inr rfl
    · exact .inl rfl
  · exact .inr rfl
/-- a code point that stands whole ahead of a place is the same in the text cut there -/
theorem width_take (s : List UInt8) (p k : Nat) (hk : k < s.length) (hp : p ≤ s.length) (hw : width s k ≠ 0) (h : (k : Int) + width s k ≤ p) (hkp : k < p) : width (s.take p) k = width s k := by
  have hl : (s.take p).length = p := by rw [List.length_take]; omega
  have hb := byt_take s p k hkp
  have hlt := byt_lt s k
  by_cases c0 : byt s k < 128
  · rw [width_lo s k hk c0, width_lo (s.take p) k (by omega) (by rw [hb]; exact c0)]
  by_cases c1 : byt s k < 192
  · exact absurd (width_no s k hk (by omega) (.inl c1)) hw
  by_cases c2 : byt s k < 224
  · have e := width_2 s k hk (by omega) c2
    rw [e] at hw h ⊢
    rw [width_2 (s.take p) k (by omega) (by rw [hb]; omega) (by rw [hb]; exact c2), hb]
    have := wOf_cases 2 128 (wAll s k 2 1 ((byt s k : Int) - 192))
    rw [wAll_take s p k 2 1 _ (by omega) (by omega) (by omega) hp]
  by_cases c3 : byt s k < 240
  · have e := width_3 s k hk (by omega) c3
    rw [e] at hw h ⊢
    rw [width_3 (s.take p) k (by omega) (by rw [hb]; omega) (by rw [hb]; exact c3), hb]
    have := wOf_cases 3 2048 (wAll s k 3 1 ((byt s k : Int) - 224))
    rw [wAll_take s p k 3 1 _ (by omega) (by omega) (by omega) hp]
  by_cases c4 : byt s k < 248
  · have e := width_4 s k hk (by omega) c4
    rw [e] at hw h ⊢
    rw [width_4 (s.take p) k (by omega) (by rw [hb]; omega) (by rw [hb]; exact c4), hb]
    have := wOf_cases 4 65536 (wAll s k 4 1 ((byt s k : Int) - 240))
    rw [wAll_take s p k 4 1 _ (by omega) (by omega) (by omega) hp]
  · exact absurd (width_no s k hk (by omega) (.inr (by omega))) hw
end Go.PS
end

section
namespace Go.PS
open Go.Proofs

theorem hexB_nonneg (s : List UInt8) (n : Int) (h1 : hex1 s n = true) (h2 : hex2 s n = true) : 0 ≤ hexB s n := by
  unfold hex1 high at h1
  unfold hex2 at h2
  simp only [Bool.and_eq_true, Bool.or_eq_true, decide_eq_true_eq] at h1 h2
  unfold hexB
  have : 0 ≤ low (chr s n) := by
    rcases h1.2 with (h | h) | h <;> rw [h] <;> decide
  omega
theorem hex1_take (s : List UInt8) (p : Nat) (n : Int) (h0 : 0 ≤ n) (h : n < p) (hp : p ≤ s.length) : hex1 (s.take p) n = hex1 s n := by
  unfold hex1
  rw [chr_take s p n h0 h, List.length_take, decide_eq_true (show n < ((min p s.length : Nat) : Int) by omega), decide_eq_true (show n < (s.length : Int) by omega)]
theorem hex2_take (s : List UInt8) (p : Nat) (n : Int) (h0 : 0 ≤ n) (h : n + 1 < p) (hp : p ≤ s.length) : hex2 (s.take p) n = hex2 s n := by
  unfold hex2
  rw [chr_take s p (n + 1) (by omega) h, List.length_take, decide_eq_true (show n + 1 < ((min p s.length : Nat) : Int) by omega), decide_eq_true (show n + 1 < (s.length : Int) by omega)]
theorem hex1_end (s : List UInt8) (n : Int) (h : ¬ n < s.length) : hex1 s n = false := by unfold hex1; rw [decide_eq_false h]; rfl
theorem hex2_end (s : List UInt8) (n : Int) (h : ¬ n + 1 < s.length) : hex2 s n = false := by unfold hex2; rw [decide_eq_false h]; rfl

theorem hex_bad (s : List UInt8) (n : Int) (h0 : 0 ≤ n) (hn : n ≤ s.length) (h : hexV s n < 0) :
    n ≤ hexTo s n ∧ hexTo s n ≤ s.length ∧ hexV (s.take (hexTo s n).toNat) n < 0 ∧ hexTo (s.take (hexTo s n).toNat) n = hexTo s n := by
  by_cases c1 : hex1 s n = true
  · have hlt : n < s.length := of_decide_eq_true (Bool.and_eq_true_iff.1 c1).1
    have e : hexTo s n = n + 1 := by
      unfold hexTo
      rw [if_pos c1]
      by_cases c2 : hex2 s n = true
      · rw [if_pos c2]
        by_cases c3 : escBad (hexB s n) = true
        · rw [if_pos c3]
        · exfalso
          unfold hexV at h
          rw [if_pos c1, if_pos c2, if_neg c3] at h
          have := hexB_nonneg s n c1 c2
          omega
      · rw [if_neg c2]
    rw [e]
    have l := len_take s (n + 1) (by omega) (by omega)
    have d1 : hex1 (s.take (n + 1).toNat) n = true := by rw [hex1_take s _ n h0 (by omega) (by omega)]; exact c1
    have d2 : hex2 (s.take (n + 1).toNat) n = false := hex2_end _ n (by rw [l]; omega)
    refine ⟨by omega, by omega, ?_, ?_⟩
    · unfold hexV; rw [if_pos d1, d2]; simp
    · unfold hexTo; rw [if_pos d1, d2]; simp
  · have e : hexTo s n = n := by unfold hexTo; rw [if_neg c1]
    rw [e]
    have l := len_take s n h0 hn
    have d1 : hex1 (s.take n.toNat) n = false := hex1_end _ n (by rw [l]; omega)
    refine ⟨by omega, hn, ?_, ?_⟩
    · unfold hexV; rw [d1]; simp
    · unfold hexTo; rw [d1]; simp
theorem hex_good (s : List UInt8) (n : Int) (p : Nat) (h0 : 0 ≤ n) (hp : p ≤ s.length) (h : 0 ≤ hexV s n) (hq : hexTo s n ≤ p) :
    hexV (s.take p) n = hexV s n ∧ hexTo (s.take p) n = hexTo s n := by
  by_cases c1 : hex1 s n = true
  · by_cases c2 : hex2 s n = true
    · by_cases c3 : escBad (hexB s n) = true
      · unfold hexV at h; rw [if_pos c1, if_pos c2, if_pos c3] at h; omega
      · have e : hexTo s n = n + 2 := by unfold hexTo; rw [if_pos c1, if_pos c2, if_neg c3]
        rw [e] at hq
        have d1 : hex1 (s.take p) n = true := by rw [hex1_take s _ n h0 (by omega) hp]; exact c1
        have d2 : hex2 (s.take p) n = true := by rw [hex2_take s _ n h0 (by omega) hp]; exact c2
        have d3 : hexB (s.take p) n = hexB s n := by unfold hexB; rw [chr_take s p n h0 (by omega), chr_take s p (n + 1) (by omega) (by omega)]
        unfold hexV hexTo
        rw [if_pos d1, if_pos d2, d3, if_pos c1, if_pos c2, if_neg c3]
        exact ⟨rfl, by rw [if_pos d1, if_pos d2, if_pos c1, if_pos c2, if_neg c3]⟩
    · unfold hexV at h; rw [if_pos c1, if_neg c2] at h; omega
  · unfold hexV at h; rw [if_neg c1] at h; omega

theorem esc_bad (s : List UInt8) (n : Int) (h0 : 0 ≤ n) (hn : n ≤ s.length) (h : escV s n < 0) :
    n ≤ escTo s n ∧ escTo s n ≤ s.length ∧ escV (s.take (escTo s n).toNat) n < 0 ∧ escTo (s.take (escTo s n).toNat) n = escTo s n := by
  by_cases c : n < s.length
  · by_cases c4 : ¬ chr s n = 34 ∧ ¬ chr s n = 92 ∧ ¬ chr s n = 110 ∧ chr s n = 120
    · obtain ⟨k1, k2, k3, k4⟩ := c4
      have e : escTo s n = hexTo s (n + 1) := by unfold escTo; rw [if_pos c, if_neg k1, if_neg k2, if_neg k3, if_pos k4]
      have ev : escV s n = hexV s (n + 1) := by unfold escV; rw [if_pos c, if_neg k1, if_neg k2, if_neg k3, if_pos k4]
      rw [ev] at h
      obtain ⟨a1, a2, a3, a4⟩ := hex_bad s (n + 1) (by omega) (by omega) h
      rw [e]
      generalize hexTo s (n + 1) = p at *
      have l := len_take s p (by omega) a2
      have d := chr_take s p.toNat n h0 (by omega)
      refine ⟨by omega, a2, ?_, ?_⟩
      · unfold escV; rw [l, if_pos (by omega), d, if_neg k1, if_neg k2, if_neg k3, if_pos k4]; exact a3
      · unfold escTo; rw [l, if_pos (by omega), d, if_neg k1, if_neg k2, if_neg k3, if_pos k4]; exact a4
    · have e : escTo s n = n := by
        unfold escTo escV at *
        rw [if_pos c] at h ⊢
        by_cases k1 : chr s n = 34
        · rw [if_pos k1] at h; omega
        · rw [if_neg k1] at h ⊢
          by_cases k2 : chr s n = 92
          · rw [if_pos k2] at h; omega
          · rw [if_neg k2] at h ⊢
            by_cases k3 : chr s n = 110
            · rw [if_pos k3] at h; omega
            · rw [if_neg k3, if_neg (fun k4 => c4 ⟨k1, k2, k3, k4⟩)]
      rw [e]
      have l := len_take s n h0 hn
      refine ⟨by omega, hn, ?_, ?_⟩
      · unfold escV; rw [l, if_neg (by omega)]; decide
      · unfold escTo; rw [l, if_neg (by omega)]
  · have e : escTo s n = n := by unfold escTo; rw [if_neg c]
    rw [e]
    have l := len_take s n h0 hn
    refine ⟨by omega, hn, ?_, ?_⟩
    · unfold escV; rw [l, if_neg (by omega)]; decide
    · unfold escTo; rw [l, if_neg (by omega)]
theorem esc_good (s : List UInt8) (n : Int) (p : Nat) (h0 : 0 ≤ n) (hn : n ≤ s.length) (hp : p ≤ s.length) (h : 0 ≤ escV s n) (hq : escTo s n ≤ p) :
    escV (s.take p) n = escV s n ∧ escTo (s.take p) n = escTo s n := by
  have hr := (escTo_range s n hn).2.2.1 h
  have c : n < s.length := Classical.byContradiction fun c => by unfold escV at h; rw [if_neg c] at h; omega
  have l : ((s.take p).length : Int) = p := by rw [List.length_take]; omega
  have d := chr_take s p n h0 (by omega)
  have hnp : n < (p : Int) := by omega
  have c' : n < ((s.take p).length : Int) := by omega
  by_cases k1 : chr s n = 34
  · unfold escV escTo; simp only [if_pos c, if_pos c', d, if_pos k1, and_self]
  · by_cases k2 : chr s n = 92
    · unfold escV escTo; simp only [if_pos c, if_pos c', d, if_neg k1, if_pos k2, and_self]
    · by_cases k3 : chr s n = 110
      · unfold escV escTo; simp only [if_pos c, if_pos c', d, if_neg k1, if_neg k2, if_pos k3, and_self]
      · by_cases k4 : chr s n = 120
        · unfold escV escTo at *
          simp only [if_pos c, if_pos c', d, if_neg k1, if_neg k2, if_neg k3, if_pos k4] at h hq ⊢
          exact hex_good s (n + 1) p (by omega) hp h hq
        · unfold escV escTo; simp only [if_pos c, if_pos c', d, if_neg k1, if_neg k2, if_neg k3, if_neg k4, and_self]
end Go.PS
end

section
namespace Go.PS
open Go.Proofs

theorem textGo_step (s : List UInt8) (m : Nat) (a : Int) (out : List UInt8) : textGo s (m + 1) a out =
    if a < s.length then
      (if chr s a = 34 then
        (if a + 1 < s.length then ⟨0, 0, [], a + 1, 4, a + 1, false⟩ else if 40 < out.length then ⟨0, 0, [], 0, 5, a + 1, false⟩ else ⟨2, 0, out, a + 1, 0, a + 1, false⟩)
      else if chr s a = 92 then
        (if escV s (a + 1) < 0 then ⟨0, 0, [], failN s (escTo s (a + 1)), failE s (escTo s (a + 1)), escTo s (a + 1), false⟩
        else textGo s m (escTo s (a + 1)) (out ++ [UInt8.ofNat (escV s (a + 1)).toNat]))
      else if width s a = 0 ∨ chr s a < 32 ∨ chr s a = 127 then ⟨0, 0, [], a, 4, a, false⟩
      else textGo s m (a + width s a) (out ++ (s.drop a.toNat).take (width s a).toNat))
    else ⟨0, 0, [], s.length, 3, a, true⟩ := rfl

theorem width_range (s : List UInt8) (a : Int) (h0 : 0 ≤ a) (h : a < s.length) : 0 ≤ width s a := by
  unfold width; split
  · split <;> omega
  · omega

/-- an answer on a text cut at the place of a fault -/
def CutOk (g : VR) (p : Int) : Prop := g.err = 0 ∨ g.err = 5 ∨ (g.err = 3 ∧ g.pos = p)

theorem text_cuts (s : List UInt8) (hwd : ∀ a : Int, 0 ≤ a → a < s.length → a + width s a ≤ s.length) : ∀ (m : Nat) (a : Int) (out : List UInt8), 0 ≤ a → a ≤ s.length → (s.length - a).toNat < m →
    ((textGo s m a out).err = 3 → (textGo s m a out).pos = s.length) ∧
    ((textGo s m a out).err = 4 → a ≤ (textGo s m a out).pos ∧ (textGo s m a out).pos ≤ s.length ∧ CutOk (textGo (s.take (textGo s m a out).pos.toNat) m a out) (textGo s m a out).pos)
  | 0, _, _, _, _, h => absurd h (by omega)
  | m + 1, a, out, h0, h1, hm => by
    by_cases c : a < s.length
    · by_cases c1 : chr s a = 34
      · by_cases c2 : a + 1 < s.length
        · have e : textGo s (m + 1) a out = ⟨0, 0, [], a + 1, 4, a + 1, false⟩ := by rw [textGo_step, if_pos c, if_pos c1, if_pos c2]
          rw [e]
          have l := len_take s (a + 1) (by omega) (by omega)
          refine ⟨fun h => by simp at h, fun _ => ⟨by show a ≤ a + 1; omega, by show a + 1 ≤ _; omega, ?_⟩⟩
          show CutOk (textGo (s.take (a + 1).toNat) (m + 1) a out) (a + 1)
          rw [textGo_step, l, if_pos (by omega), chr_take s _ a h0 (by omega), if_pos c1, if_neg (by omega)]
          by_cases c3 : 40 < out.length
          · rw [if_pos c3]; exact .inr (.inl rfl)
          · rw [if_neg c3]; exact .inl rfl
        · by_cases c3 : 40 < out.length
          · have e : textGo s (m + 1) a out = ⟨0, 0, [], 0, 5, a + 1, false⟩ := by rw [textGo_step, if_pos c, if_pos c1, if_neg c2, if_pos c3]
            rw [e]; exact ⟨fun h => by simp at h, fun h => by simp at h⟩
          · have e : textGo s (m + 1) a out = ⟨2, 0, out, a + 1, 0, a + 1, false⟩ := by rw [textGo_step, if_pos c, if_pos c1, if_neg c2, if_neg c3]
            rw [e]; exact ⟨fun h => by simp at h, fun h => by simp at h⟩
      · by_cases c2 : chr s a = 92
        · by_cases c3 : escV s (a + 1) < 0
          · have e : textGo s (m + 1) a out = ⟨0, 0, [], failN s (escTo s (a + 1)), failE s (escTo s (a + 1)), escTo s (a + 1), false⟩ := by rw [textGo_step, if_pos c, if_neg c1, if_pos c2, if_pos c3]
            rw [e]
            obtain ⟨b1, b2, b3, b4⟩ := esc_bad s (a + 1) (by omega) (by omega) c3
            dsimp only
            generalize escTo s (a + 1) = p at *
            by_cases hp : p < s.length
            · have e1 : failE s p = 4 := by unfold failE; rw [if_pos hp]
              have e2 : failN s p = p := by unfold failN; rw [if_pos hp]
              rw [e1, e2]
              have l := len_take s p (by omega) b2
              refine ⟨fun h => by simp at h, fun _ => ⟨by omega, b2, ?_⟩⟩
              rw [textGo_step, l, if_pos (by omega), chr_take s _ a h0 (by omega), if_neg c1, if_pos c2, if_pos b3, b4]
              refine .inr (.inr ⟨?_, ?_⟩)
              · show failE _ p = 3
                unfold failE; rw [l, if_neg (by omega)]
              · show failN _ p = p
                unfold failN; rw [l, if_neg (by omega)]
            · have e1 : failE s p = 3 := by unfold failE; rw [if_neg hp]
              have e2 : failN s p = s.length := by unfold failN; rw [if_neg hp]
              rw [e1, e2]
              exact ⟨fun _ => rfl, fun h => by simp at h⟩
          · have e : textGo s (m + 1) a out = textGo s m (escTo s (a + 1)) (out ++ [UInt8.ofNat (escV s (a + 1)).toNat]) := by rw [textGo_step, if_pos c, if_neg c1, if_pos c2, if_neg c3]
            rw [e]
            obtain ⟨b1, b2, b3, _⟩ := escTo_range s (a + 1) (by omega)
            obtain ⟨i1, i2⟩ := text_cuts s hwd m (escTo s (a + 1)) (out ++ [UInt8.ofNat (escV s (a + 1)).toNat]) (by omega) b2 (by omega)
            refine ⟨i1, fun h => ?_⟩
            obtain ⟨j1, j2, j3⟩ := i2 h
            refine ⟨by omega, j2, ?_⟩
            generalize (textGo s m (escTo s (a + 1)) (out ++ [UInt8.ofNat (escV s (a + 1)).toNat])).pos = p at *
            have l := len_take s p (by omega) j2
            obtain ⟨g1, g2⟩ := esc_good s (a + 1) p.toNat (by omega) (by omega) (by omega) (by omega) (by omega)
            rw [textGo_step, l, if_pos (by omega), chr_take s _ a h0 (by omega), if_neg c1, if_pos c2, g1, g2, if_neg c3]
            exact j3
        · by_cases c3 : width s a = 0 ∨ chr s a < 32 ∨ chr s a = 127
          · have e : textGo s (m + 1) a out = ⟨0, 0, [], a, 4, a, false⟩ := by rw [textGo_step, if_pos c, if_neg c1, if_neg c2, if_pos c3]
            rw [e]
            have l := len_take s a h0 h1
            refine ⟨fun h => by simp at h, fun _ => ⟨Int.le_refl _, h1, ?_⟩⟩
            show CutOk (textGo (s.take a.toNat) (m + 1) a out) a
            rw [textGo_step, l, if_neg (by omega)]
            exact .inr (.inr ⟨rfl, rfl⟩)
          · have e : textGo s (m + 1) a out = textGo s m (a + width s a) (out ++ (s.drop a.toNat).take (width s a).toNat) := by rw [textGo_step, if_pos c, if_neg c1, if_neg c2, if_neg c3]
            rw [e]
            have w0 := width_range s a h0 c
            have w1 : width s a ≠ 0 := fun h => c3 (.inl h)
            have w2 := hwd a h0 c
            obtain ⟨i1, i2⟩ := text_cuts s hwd m (a + width s a) (out ++ (s.drop a.toNat).take (width s a).toNat) (by omega) w2 (by omega)
            refine ⟨i1, fun h => ?_⟩
            obtain ⟨j1, j2, j3⟩ := i2 h
            refine ⟨by omega, j2, ?_⟩
            generalize (textGo s m (a + width s a) (out ++ (s.drop a.toNat).take (width s a).toNat)).pos = p at *
            have l := len_take s p (by omega) j2
            have hk : ((a.toNat : Nat) : Int) = a := by omega
            have wt : width (s.take p.toNat) a = width s a := by
              have := width_take s p.toNat a.toNat (by omega) (by omega) (by rw [hk]; exact w1) (by rw [hk]; omega) (by omega)
              rwa [hk] at this
            have dt : ((s.take p.toNat).drop a.toNat).take (width s a).toNat = (s.drop a.toNat).take (width s a).toNat := by
              rw [List.drop_take, List.take_take, Nat.min_eq_left (by omega)]
            rw [textGo_step, l, if_pos (by omega), chr_take s _ a h0 (by omega), if_neg c1, if_neg c2, wt, if_neg c3, dt]
            exact j3
    · have e : textGo s (m + 1) a out = ⟨0, 0, [], s.length, 3, a, true⟩ := by rw [textGo_step, if_neg c]
      rw [e]; exact ⟨fun _ => rfl, fun h => by simp at h⟩
end Go.PS
end

section
namespace Go.PS
open Go.Proofs
theorem cuts_law (s : List UInt8) (hb : s.length ≤ big) (hwd : ∀ a : Int, 0 ≤ a → a < s.length → a + width s a ≤ s.length) : CutsLaw s := by
  have hbig : (big : Nat) = 1000000 := rfl
  by_cases c0 : s.length = 0
  · have e : parseR s = ⟨0, 0, [], 0, 3, 0, false⟩ := by unfold parseR; rw [if_pos c0]
    unfold CutsLaw
    rw [e]
    exact ⟨fun _ => by show (0 : Int) = _; omega, fun h => by simp at h⟩
  · by_cases c1 : chr s 0 = 34
    · have e : parseR s = textR s := by unfold parseR; rw [if_neg c0, if_pos c1]
      obtain ⟨h3, h4⟩ := text_cuts s hwd FU 1 [] (by omega) (by omega) (by unfold FU; omega)
      unfold CutsLaw
      rw [e]
      refine ⟨h3, fun h => ?_⟩
      obtain ⟨j1, j2, j3⟩ := h4 h
      have j1' : 1 ≤ (textR s).pos := j1
      have j2' : (textR s).pos ≤ s.length := j2
      refine ⟨by omega, j2, ?_⟩
      have l := len_take s (textR s).pos (by omega) j2
      have e2 : parseR (s.take (textR s).pos.toNat) = textR (s.take (textR s).pos.toNat) := by
        unfold parseR; rw [if_neg (by omega), chr_take s _ 0 (by omega) (by omega), if_pos c1]
      rw [e2]
      exact j3
    · by_cases c2 : chr s 0 = 45 ∨ isDigit (chr s 0) = true
      · have e : parseR s = numR s := by unfold parseR; rw [if_neg c0, if_neg c1, if_pos c2]
        obtain ⟨h3, h4⟩ := num_cuts s (by omega) c2
        unfold CutsLaw
        rw [e]
        refine ⟨h3, fun h => ?_⟩
        obtain ⟨j1, j2, j3⟩ := h4 h
        refine ⟨by omega, j2, ?_⟩
        have l := len_take s (numR s).pos (by omega) j2
        have e2 : parseR (s.take (numR s).pos.toNat) = numR (s.take (numR s).pos.toNat) := by
          unfold parseR; rw [if_neg (by omega), chr_take s _ 0 (by omega) (by omega), if_neg c1, if_pos c2]
        rw [e2]
        exact j3
      · have e : parseR s = ⟨0, 0, [], 0, 4, 0, false⟩ := by unfold parseR; rw [if_neg c0, if_neg c1, if_neg c2]
        unfold CutsLaw
        rw [e]
        refine ⟨fun h => by simp at h, fun _ => ⟨by show (0 : Int) ≤ 0; omega, by show (0 : Int) ≤ _; omega, .inr (.inr ⟨?_, ?_⟩)⟩⟩ <;>
          simp [parseR]
end Go.PS
end

section
namespace Go.PS
open Go.Proofs
theorem width_fit (s : List UInt8) (a : Int) (h0 : 0 ≤ a) (h : a < s.length) : a + width s a ≤ s.length := by
  obtain ⟨k, rfl⟩ := Int.eq_ofNat_of_zero_le h0
  rcases dec_cases s k (by omega) with ⟨c, hd, hw⟩ | ⟨c, hd, hw⟩ | ⟨c, hd1, hd2, hd3, hw⟩
  · omega
  · omega
  · omega
theorem ok6 (W0 : World) (hW : Laid W0) : EKOk Tryd.prog W0 6 (.pure S6) := ok6_of (fun s hb => cuts_law s hb (width_fit s)) W0 hW
end Go.PS
end

section
set_option maxRecDepth 100000
namespace Go.Proofs.YtihpkebhgkfiaaaDoor
open Go.PS Go.Shelf Go.Lib
open Go.ChangeShapes Go.WideShapes Go.ChangeAt Go.RowKit
open Go.ChangeMaps (open_string shut_string)

theorem s6_true (s : List UInt8) : (S6 [.d (.str s)]).val = some (.d (.bool true)) := rfl

theorem cuts_lifted (os : Os) (started : os.Started) (H : Type) (enc : TypeId × Value → H) :
    ReturnsInHanded {} Tryd.checked os 6 .any (fun w args => (Rows.valueCutsSpec.pre enc Tryd.prog Tryd.f6 Rows.valueCutsRow.domain false w args ∧ laidMetH Tryd.prog Rows.valueCutsRow.laid w) ∧ sizedMet enc Tryd.prog Tryd.f6 (OpenSpec.ofChange Rows.valueCutsSpec) false w args)
      (Rows.valueCutsSpec.post enc Tryd.prog Tryd.f6 false true false false) := by
  refine returnsInHanded_of_change_and (C := Tryd.checked) (X := fun w _ => laidMetH Tryd.prog Rows.valueCutsRow.laid w) (fun _ _ _ hh h => h.of_heap hh) own started (by kernel_rfl) Tryd.func6
    (ChangeSpec.witness_at (enc := enc) (C := Tryd.checked) (os := os) (X := fun w _ => laidMetH Tryd.prog Rows.valueCutsRow.laid w) false (World.laidAll Tryd.prog os laid) #[.string ⟨#[]⟩] 8 (World.laidAll_os _ _ _) (by kernel_rfl) (by kernel_rfl) (by kernel_rfl) (by kernel_rfl) (by kernel_rfl) (laid_met os _)) ?_
  intro W base args ds gs before hval0 hW _ _ hL _
  have hval : ∀ (j : Nat) t v, Tryd.f6.params[j]? = some t → args[j]? = some v → Value.okWide Tryd.prog W .any base t v := hval0
  have hW' := hW
  obtain ⟨p, q, hA0, hV0, rfl, _, _⟩ := hW
  have hA : DataW.TrodAll enc Tryd.prog W 0 (fun _ => true) true Tryd.f6.params.toList args.toList ds p := hA0
  rw [Tryd.params6] at hA hval
  obtain ⟨v0, d0, rfl, rfl, h0⟩ := trodAll_one hA
  obtain ⟨rfl, rfl⟩ := trodVars_none hV0
  obtain ⟨s, rfl, rfl, rfl, ws⟩ := open_string Tryd.underlying9 (hval 0 9 v0 rfl rfl) h0
  have e1 : Rows.valueCutsSpec.fn H ([.lit (.string s.data.toList)] ++ []) = { results := [.lit (.bool true)], args := [.lit (.string s.data.toList)] } := rfl
  refine (law_one (ok6 W (laid_world hL)) s ws (s6_true _)).mono ?_
  rintro e W' ⟨rfl, bel⟩
  refine ⟨_, rfl, _, _, _, [], [], [], hW', ?_, ?_, ?_, bel.frame _, fun h => by cases h⟩
  · rw [e1]; exact trodAll_mk1 (shut_bool Tryd.underlying4 true)
  · rw [e1]; exact trodAll_mk1 (shut_string Tryd.underlying9 ws)
  · rw [e1]; rfl

theorem cuts_holds : Rows.ValueCutsSaid :=
  OpenClaim.holds_of_wide 6 Tryd.f6 rfl rfl rfl rfl rfl rfl rfl ⟨rfl, rfl, rfl, rfl, rfl⟩ rfl rfl rfl rfl rfl (by kernel_rfl) Tryd.func6 (by kernel_rfl)
    (of_decide_eq_true (by kernel_rfl)) (by unfold Func.isWrapper; rw [if_neg (of_decide_eq_false (by kernel_rfl))]; exact ⟨rfl, rfl⟩)
    (fun os started H enc _ => cuts_lifted os started H enc)
end Go.Proofs.YtihpkebhgkfiaaaDoor
end

section
namespace Go.Proofs.YtihpkebhgkfiaaaDoor
open Go

theorem valueCuts_card : Rows.ValueCutsCardSaid :=
  Claim7.holds_tied_plain_at .later [] [.data, .data, .data, .data, .sentinel, .sentinel, .pinned] true (true, "36bbe3e7eaadf27dabe13b421857fca0247e9a5d163028c61325c415c9f7cfbc") true
    cuts_holds (fun _ h => by cases h) (by kernel_rfl) (fun _ h => by cases h) valueCuts_row_tie rfl ⟨rfl, rfl⟩ (by kernel_rfl) rfl
    (fun f fn hf hfn => by
      obtain rfl : f = 6 := Option.some.inj ((show Tryd.prog.funcNamed "fasti/fastilaw01.ValueCuts" = some 6 by kernel_rfl).symm.trans hf) |>.symm
      obtain rfl : fn = Tryd.f6 := (Option.some.inj (Tryd.func6.symm.trans hfn)).symm
      exact ⟨by kernel_rfl, fun j t ht => by
        rw [Tryd.params6] at ht
        have h9 : t = 9 := by
          rcases j with _ | j
          · simpa using ht.symm
          · simp at ht
        subst h9
        exact (show Tryd.prog.wantsStandIn 9 = false by kernel_rfl)⟩)
    (by kernel_rfl)
#print axioms valueCuts_card
end Go.Proofs.YtihpkebhgkfiaaaDoor
end
