/- PROVED: fastilaw01.ValueOrder returns true for every three values (value.Cmp answers -1, 0 or 1, turned about it answers the negative, it is 0 at equal values alone, and it hangs together over three), each argument reads as it did, and nothing that was there is changed.
   CONDITIONS: only the row's own: the listed package-level variables hold what the program's text lays into them (the card ties them to that text). -/
import Derived.Test.YtihpkebhgkfiaaaDoorVaC
import Derived.Test.YtihpkebhgkfiaaaDoorVaB
import Derived.Test.YtihpkebhgkfiaaaDoorCards
set_option linter.all false
section
namespace Go.PS
open Go.Proofs
def S88 : List PV → Tr PV
  | [.d (.int .i64 _)] => .ok (.d (.bool false))
  | _ => .no
def cmpI (a b : Int) : Int := if a < b then -1 else if b < a then 1 else 0
def S57 : List PV → Tr PV
  | [.d (.int .i64 a), .d (.int .i64 b)] => .ok (.d (.int .i64 (cmpI a b)))
  | _ => .no
def vcmp (k n : Int) (s : List UInt8) (l m : Int) (t : List UInt8) : Int := if cmpI k l = 0 then (if cmpI n m = 0 then Lib.compareBytes s t else cmpI n m) else cmpI k l
def S26 : List PV → Tr PV
  | [.d (.agg [.int .i64 k, .int .i64 n, .str s]), .d (.agg [.int .i64 l, .int .i64 m, .str t])] => .ok (.d (.int .i64 (vcmp k n s l m t)))
  | _ => .no
def S19 : List PV → Tr PV
  | [.d (.agg [.int .i64 _, .int .i64 _, .str s])] => .ok (.d (.bool (decide ((s.length : Int) ≤ 5000))))
  | _ => .no
def S8 : List PV → Tr PV
  | [.d (.agg [.int .i64 _, .int .i64 _, .str _]), .d (.agg [.int .i64 _, .int .i64 _, .str _]), .d (.agg [.int .i64 _, .int .i64 _, .str _])] => .ok (.d (.bool true))
  | _ => .no
end Go.PS
end

section
namespace Go.PS
open Go.Proofs
set_option maxRecDepth 100000
/-! cmp.isNaN fasti api.ValueKind  -/
theorem fn88 : FnOk Tryd.prog 88 6 [.tmp 2] (body Tryd.f88) := ⟨Tryd.f88, Tryd.func88, bodySome _ (by kernel_rfl), by kernel_rfl, by kernel_rfl, by kernel_rfl, by kernel_rfl⟩
theorem run88 (F : Nat) (n : Int) : runP (ctx F []) noL 6 [.tmp 2] (body Tryd.f88) [.d (.int .i64 n)] =
    Tr.val
      (.ok (PV.d (DV.bool !decide (n = n)))) := by kernel_rfl
/-! cmp.isNaN int  -/
theorem fn89 : FnOk Tryd.prog 89 6 [.tmp 2] (body Tryd.f89) := ⟨Tryd.f89, Tryd.func89, bodySome _ (by kernel_rfl), by kernel_rfl, by kernel_rfl, by kernel_rfl, by kernel_rfl⟩
theorem run89 (F : Nat) (n : Int) : runP (ctx F []) noL 6 [.tmp 2] (body Tryd.f89) [.d (.int .i64 n)] =
    Tr.val
      (.ok (PV.d (DV.bool !decide (n = n)))) := by kernel_rfl
/-! cmp.Compare fasti api.ValueKind  -/
theorem fn57 : FnOk Tryd.prog 57 20 [.tmp 4] (body Tryd.f57) := ⟨Tryd.f57, Tryd.func57, bodySome _ (by kernel_rfl), by kernel_rfl, by kernel_rfl, by kernel_rfl, by kernel_rfl⟩
theorem run57 (F : Nat) (a b : Int) : runP (ctx F [(88, .pure S88)]) noL 20 [.tmp 4] (body Tryd.f57) [.d (.int .i64 a), .d (.int .i64 b)] =
    Tr.val
      (.cnd (decide (a < b))
        (.ok (PV.d (DV.int IntKind.i64 (Int.negSucc 0))))
        (.cnd (decide (a > b))
          (.ok (PV.d (DV.int IntKind.i64 (1))))
          (.ok (PV.d (DV.int IntKind.i64 (0)))))) := by kernel_rfl
/-! cmp.Compare int  -/
theorem fn58 : FnOk Tryd.prog 58 20 [.tmp 4] (body Tryd.f58) := ⟨Tryd.f58, Tryd.func58, bodySome _ (by kernel_rfl), by kernel_rfl, by kernel_rfl, by kernel_rfl, by kernel_rfl⟩
theorem run58 (F : Nat) (a b : Int) : runP (ctx F [(89, .pure S88)]) noL 20 [.tmp 4] (body Tryd.f58) [.d (.int .i64 a), .d (.int .i64 b)] =
    Tr.val
      (.cnd (decide (a < b))
        (.ok (PV.d (DV.int IntKind.i64 (Int.negSucc 0))))
        (.cnd (decide (a > b))
          (.ok (PV.d (DV.int IntKind.i64 (1))))
          (.ok (PV.d (DV.int IntKind.i64 (0)))))) := by kernel_rfl
/-! fasti value.Cmp -/
theorem fn26 : FnOk Tryd.prog 26 28 [.tmp 4] (body Tryd.f26) := ⟨Tryd.f26, Tryd.func26, bodySome _ (by kernel_rfl), by kernel_rfl, by kernel_rfl, by kernel_rfl, by kernel_rfl⟩
theorem run26 (F : Nat) (k n l m : Int) (s t : List UInt8) : runP (ctx F [(57, .pure S57), (58, .pure S57), (59, .pure S59)]) noL 28 [.tmp 4] (body Tryd.f26) [.d (.agg [.int .i64 k, .int .i64 n, .str s]), .d (.agg [.int .i64 l, .int .i64 m, .str t])] =
    Tr.val
      (.cnd (!decide (cmpI k l = 0))
        (.ok (PV.d (DV.int IntKind.i64 (cmpI k l))))
        (.cnd (!decide (cmpI n m = 0))
          (.ok (PV.d (DV.int IntKind.i64 (cmpI n m))))
          (.ok (PV.d (DV.int IntKind.i64 (Lib.compareBytes s t)))))) := by kernel_rfl
/-! fasti fastilaw01.ValueOrder -/
theorem fn8 : FnOk Tryd.prog 8 80 [.tmp 6] (body Tryd.f8) := ⟨Tryd.f8, Tryd.func8, bodySome _ (by kernel_rfl), by kernel_rfl, by kernel_rfl, by kernel_rfl, by kernel_rfl⟩
theorem run8 (F : Nat) (k n l m p q : Int) (s t u : List UInt8) : runP (ctx F [(19, .pure S19), (26, .pure S26), (16, .pure S16)]) noL 80 [.tmp 6] (body Tryd.f8) [.d (.agg [.int .i64 k, .int .i64 n, .str s]), .d (.agg [.int .i64 l, .int .i64 m, .str t]), .d (.agg [.int .i64 p, .int .i64 q, .str u])] =
    Tr.val
      (.cnd (!decide ((↑s.length : Int) ≤ 5000))
        (.ok (PV.d (DV.bool true)))
        (.cnd (!decide ((↑t.length : Int) ≤ 5000))
          (.ok (PV.d (DV.bool true)))
          (.cnd (!decide ((↑u.length : Int) ≤ 5000))
            (.ok (PV.d (DV.bool true)))
            (.cnd (!decide (vcmp k n s l m t = IntKind.i64.wrap (0 - vcmp l m t k n s)))
              (.ok (PV.d (DV.bool false)))
              (.cnd (!decide (vcmp k n s l m t = 0) == (decide (k = l) && (decide (n = m) && (decide (s = t) && true))))
                (.ok (PV.d (DV.bool false)))
                (.cnd (decide (vcmp k n s l m t < -1))
                  (.ok (PV.d (DV.bool false)))
                  (.cnd (decide (vcmp k n s l m t > 1))
                    (.ok (PV.d (DV.bool false)))
                    (.cnd (decide (vcmp k n s l m t > 0))
                      (.cnd (decide (vcmp k n s l m t ≥ 0))
                        (.ok (PV.d (DV.bool true)))
                        (.cnd (decide (vcmp l m t p q u > 0))
                          (.ok (PV.d (DV.bool true)))
                          (.cnd (decide (vcmp k n s p q u < 0))
                            (.ok (PV.d (DV.bool true)))
                            (.ok (PV.d (DV.bool false))))))
                      (.cnd (decide (vcmp l m t p q u > 0))
                        (.cnd (decide (vcmp k n s l m t ≥ 0))
                          (.ok (PV.d (DV.bool true)))
                          (.cnd (decide (vcmp l m t p q u > 0))
                            (.ok (PV.d (DV.bool true)))
                            (.cnd (decide (vcmp k n s p q u < 0))
                              (.ok (PV.d (DV.bool true)))
                              (.ok (PV.d (DV.bool false))))))
                        (.cnd (decide (vcmp k n s p q u ≤ 0))
                          (.cnd (decide (vcmp k n s l m t ≥ 0))
                            (.ok (PV.d (DV.bool true)))
                            (.cnd (decide (vcmp l m t p q u > 0))
                              (.ok (PV.d (DV.bool true)))
                              (.cnd (decide (vcmp k n s p q u < 0))
                                (.ok (PV.d (DV.bool true)))
                                (.ok (PV.d (DV.bool false))))))
                          (.ok (PV.d (DV.bool false))))))))))))) := by kernel_rfl
/-! fasti fastilaw01.short -/
theorem fn19 : FnOk Tryd.prog 19 7 [.tmp 2] (body Tryd.f19) := ⟨Tryd.f19, Tryd.func19, bodySome _ (by kernel_rfl), by kernel_rfl, by kernel_rfl, by kernel_rfl, by kernel_rfl⟩
theorem run19 (F : Nat) (k n : Int) (s : List UInt8) : runP (ctx F []) noL 7 [.tmp 2] (body Tryd.f19) [.d (.agg [.int .i64 k, .int .i64 n, .str s])] =
    Tr.val
      (.ok (PV.d (DV.bool (decide ((↑s.length : Int) ≤ 5000))))) := by kernel_rfl
end Go.PS
end

section
namespace Go.PS
open Go.Proofs

/-- how three comparisons hang together -/
def Cmp3 (x y z : Int) : Prop := (-1 ≤ x ∧ x ≤ 1) ∧ (-1 ≤ y ∧ y ≤ 1) ∧ (-1 ≤ z ∧ z ≤ 1) ∧ (x = 0 → z = y) ∧ (y = 0 → z = x) ∧ (x < 0 → y < 0 → z < 0) ∧ (0 < x → 0 < y → 0 < z)

theorem cmpI_three (a b c : Int) : Cmp3 (cmpI a b) (cmpI b c) (cmpI a c) := by
  unfold Cmp3 cmpI
  refine ⟨?_, ?_, ?_, ?_, ?_, ?_, ?_⟩ <;> split <;> (try split) <;> (try split) <;> (try split) <;> (try split) <;> (try split) <;> omega
theorem cmpI_anti (a b : Int) : cmpI b a = - cmpI a b := by unfold cmpI; split <;> split <;> omega
theorem cmpI_zero (a b : Int) : cmpI a b = 0 ↔ a = b := by unfold cmpI; split <;> (try split) <;> omega

theorem cb_anti : ∀ s t : List UInt8, Lib.compareBytes t s = - Lib.compareBytes s t
  | [], [] => rfl
  | [], _ :: _ => rfl
  | _ :: _, [] => rfl
  | a :: s, b :: t => by
    unfold Lib.compareBytes
    have := cb_anti s t
    simp only [UInt8.lt_iff_toNat_lt]
    split <;> split <;> omega
theorem cb_zero : ∀ s t : List UInt8, Lib.compareBytes s t = 0 ↔ s = t
  | [], [] => by simp [Lib.compareBytes]
  | [], _ :: _ => by simp [Lib.compareBytes]
  | _ :: _, [] => by simp [Lib.compareBytes]
  | a :: s, b :: t => by
    unfold Lib.compareBytes
    have := cb_zero s t
    simp only [UInt8.lt_iff_toNat_lt, List.cons.injEq, ← UInt8.toNat_inj]
    split
    · constructor
      · intro h; omega
      · intro h; omega
    · split
      · constructor
        · intro h; omega
        · intro h; omega
      · rw [this]; constructor
        · intro h; exact ⟨by omega, h⟩
        · intro h; exact h.2
theorem cb_range : ∀ s t : List UInt8, -1 ≤ Lib.compareBytes s t ∧ Lib.compareBytes s t ≤ 1
  | [], [] => by simp [Lib.compareBytes]
  | [], _ :: _ => by simp [Lib.compareBytes]
  | _ :: _, [] => by simp [Lib.compareBytes]
  | a :: s, b :: t => by
    unfold Lib.compareBytes
    have := cb_range s t
    split <;> (try split) <;> omega
theorem cb_three : ∀ s t u : List UInt8, Lib.compareBytes s t < 0 → Lib.compareBytes t u < 0 → Lib.compareBytes s u < 0
  | [], [], _ => by simp [Lib.compareBytes]
  | [], _ :: _, [] => by simp [Lib.compareBytes]
  | [], _ :: _, _ :: _ => by simp [Lib.compareBytes]
  | _ :: _, [], _ => by simp [Lib.compareBytes]
  | _ :: _, _ :: _, [] => by simp [Lib.compareBytes]
  | a :: s, b :: t, c :: u => by
    unfold Lib.compareBytes
    have := cb_three s t u
    simp only [UInt8.lt_iff_toNat_lt]
    intro h1 h2
    split at h1
    · split at h2
      · rw [if_pos (by omega)]; omega
      · split at h2
        · omega
        · rw [if_pos (by omega)]; omega
    · split at h1
      · omega
      · split at h2
        · rw [if_pos (by omega)]; omega
        · split at h2
          · omega
          · rw [if_neg (by omega), if_neg (by omega)]; exact this h1 h2
theorem cb_Cmp3 (s t u : List UInt8) : Cmp3 (Lib.compareBytes s t) (Lib.compareBytes t u) (Lib.compareBytes s u) := by
  refine ⟨cb_range _ _, cb_range _ _, cb_range _ _, fun h => ?_, fun h => ?_, cb_three s t u, fun h1 h2 => ?_⟩
  · rw [cb_zero] at h; rw [h]
  · rw [cb_zero] at h; rw [h]
  · have := cb_three u t s (by rw [cb_anti t u]; omega) (by rw [cb_anti s t]; omega)
    rw [cb_anti s u] at this; omega
theorem lex3 {x1 y1 z1 x2 y2 z2 : Int} (h : Cmp3 x1 y1 z1) (g : Cmp3 x2 y2 z2) : Cmp3 (if x1 = 0 then x2 else x1) (if y1 = 0 then y2 else y1) (if z1 = 0 then z2 else z1) := by
  obtain ⟨a1, a2, a3, a4, a5, a6, a7⟩ := h
  obtain ⟨b1, b2, b3, b4, b5, b6, b7⟩ := g
  by_cases hx : x1 = 0
  · rw [a4 hx]
    by_cases hy : y1 = 0
    · rw [if_pos hx, if_pos hy, if_pos hy]; exact ⟨b1, b2, b3, b4, b5, b6, b7⟩
    · rw [if_pos hx, if_neg hy, if_neg hy]; exact ⟨b1, a2, a2, fun _ => rfl, fun h => absurd h hy, by omega, by omega⟩
  · by_cases hy : y1 = 0
    · rw [a5 hy]
      rw [if_neg hx, if_pos hy, if_neg hx]; exact ⟨a1, b2, a1, fun h => absurd h hx, fun _ => rfl, by omega, by omega⟩
    · rw [if_neg hx, if_neg hy]
      refine ⟨a1, a2, ?_, fun h => absurd h hx, fun h => absurd h hy, fun h1 h2 => ?_, fun h1 h2 => ?_⟩
      · split
        · exact b3
        · exact a3
      · have := a6 h1 h2; rw [if_neg (by omega)]; exact this
      · have := a7 h1 h2; rw [if_neg (by omega)]; exact this
theorem vcmp_three (k n l m p q : Int) (s t u : List UInt8) : Cmp3 (vcmp k n s l m t) (vcmp l m t p q u) (vcmp k n s p q u) :=
  lex3 (cmpI_three k l p) (lex3 (cmpI_three n m q) (cb_Cmp3 s t u))
theorem vcmp_anti (k n l m : Int) (s t : List UInt8) : vcmp l m t k n s = - vcmp k n s l m t := by
  unfold vcmp
  have h1 := cmpI_anti k l
  have h2 := cmpI_anti n m
  have h3 := cb_anti s t
  rw [h1, h2, h3]
  split <;> (try split) <;> (try split) <;> (try split) <;> omega
theorem vcmp_zero (k n l m : Int) (s t : List UInt8) : vcmp k n s l m t = 0 ↔ (k = l ∧ n = m ∧ s = t) := by
  unfold vcmp
  have h1 := cmpI_zero k l
  have h2 := cmpI_zero n m
  have h3 := cb_zero s t
  by_cases a : cmpI k l = 0
  · rw [if_pos a]
    by_cases b : cmpI n m = 0
    · rw [if_pos b, h3]; exact ⟨fun h => ⟨h1.1 a, h2.1 b, h⟩, fun h => h.2.2⟩
    · rw [if_neg b]; exact ⟨fun h => absurd h b, fun h => absurd (h2.2 h.2.1) b⟩
  · rw [if_neg a]; exact ⟨fun h => absurd h a, fun h => absurd (h1.2 h.1) a⟩

theorem ok88 (W0 : World) : EKOk Tryd.prog W0 88 (.pure S88) := by
  refine pure_of (tyOk 0 []) (look_ok all_nil) mixed fn88 (lpsOk_no _ _) fun args r h => ?_
  unfold S88 at h
  split at h
  · rename_i n
    refine (run88 0 n).trans ?_
    rw [← h]; simp
  · simp [Tr.val_no] at h
theorem ok89 (W0 : World) : EKOk Tryd.prog W0 89 (.pure S88) := by
  refine pure_of (tyOk 0 []) (look_ok all_nil) mixed fn89 (lpsOk_no _ _) fun args r h => ?_
  unfold S88 at h
  split at h
  · rename_i n
    refine (run89 0 n).trans ?_
    rw [← h]; simp
  · simp [Tr.val_no] at h
theorem cmpI_tree (a b : Int) : Tr.val (.cnd (decide (a < b)) (.ok (PV.d (DV.int IntKind.i64 (Int.negSucc 0)))) (.cnd (decide (a > b)) (.ok (PV.d (DV.int IntKind.i64 (1)))) (.ok (PV.d (DV.int IntKind.i64 (0)))))) = some (.d (.int .i64 (cmpI a b))) := by
  simp only [Tr.val_ok, Tr.val_cnd]
  unfold cmpI
  by_cases h1 : a < b
  · rw [cnd_p h1, if_pos h1]; rfl
  · rw [cnd_n h1, if_neg h1]
    by_cases h2 : b < a
    · rw [cnd_p (p := a > b) h2, if_pos h2]
    · rw [cnd_n (p := a > b) h2, if_neg h2]
theorem ok57 (W0 : World) : EKOk Tryd.prog W0 57 (.pure S57) := by
  refine pure_of (tyOk 0 [(88, .pure S88)]) (look_ok (all_cons (ok88 W0) all_nil)) mixed fn57 (lpsOk_no _ _) fun args r h => ?_
  unfold S57 at h
  split at h
  · rename_i a b
    refine (run57 0 a b).trans ?_
    rw [← h, cmpI_tree]; rfl
  · simp [Tr.val_no] at h
theorem ok58 (W0 : World) : EKOk Tryd.prog W0 58 (.pure S57) := by
  refine pure_of (tyOk 0 [(89, .pure S88)]) (look_ok (all_cons (ok89 W0) all_nil)) mixed fn58 (lpsOk_no _ _) fun args r h => ?_
  unfold S57 at h
  split at h
  · rename_i a b
    refine (run58 0 a b).trans ?_
    rw [← h, cmpI_tree]; rfl
  · simp [Tr.val_no] at h
theorem ok26 (W0 : World) : EKOk Tryd.prog W0 26 (.pure S26) := by
  refine pure_of (tyOk 0 [(57, .pure S57), (58, .pure S57), (59, .pure S59)]) (look_ok (all_cons (ok57 W0) (all_cons (ok58 W0) (all_cons ok59 all_nil)))) mixed fn26 (lpsOk_no _ _) fun args r h => ?_
  unfold S26 at h
  split at h
  · rename_i k n s l m t
    refine (run26 0 k n l m s t).trans ?_
    rw [← h]
    simp only [Tr.val_ok, Tr.val_cnd]
    unfold vcmp
    by_cases a : cmpI k l = 0
    · rw [if_pos a, decide_eq_true a]
      by_cases b : cmpI n m = 0
      · rw [if_pos b, decide_eq_true b]; rfl
      · rw [if_neg b, decide_eq_false b]; rfl
    · rw [if_neg a, decide_eq_false a]; rfl
  · simp [Tr.val_no] at h
theorem ok19 (W0 : World) : EKOk Tryd.prog W0 19 (.pure S19) := by
  refine pure_of (tyOk 0 []) (look_ok all_nil) mixed fn19 (lpsOk_no _ _) fun args r h => ?_
  unfold S19 at h
  split at h
  · rename_i k n s
    exact (run19 0 k n s).trans h
  · simp [Tr.val_no] at h
theorem wrap_small {x : Int} (h : -1 ≤ x ∧ x ≤ 1) : IntKind.i64.wrap x = x := by
  have : x = -1 ∨ x = 0 ∨ x = 1 := by omega
  rcases this with rfl | rfl | rfl <;> rfl
theorem cnd_no {R : Type} {b : Bool} {x y : Option R} (h : b = false) : PS.cnd b x y = y := by rw [h]; rfl
theorem ok8 (W0 : World) (hW : Laid W0) : EKOk Tryd.prog W0 8 (.pure S8) := by
  refine pure_of (tyOk 0 [(19, .pure S19), (26, .pure S26), (16, .pure S16)]) (look_ok (all_cons (ok19 W0) (all_cons (ok26 W0) (all_cons (ok16 W0 hW) all_nil)))) mixed fn8 (lpsOk_no _ _) fun args r h => ?_
  unfold S8 at h
  split at h
  · rename_i k n s l m t p q u
    refine (run8 0 k n l m p q s t u).trans ?_
    rw [← h]
    simp only [Tr.val_ok, Tr.val_cnd]
    obtain ⟨c1, c2, c3, c4, c5, c6, c7⟩ := vcmp_three k n l m p q s t u
    have hz := vcmp_zero k n l m s t
    rw [vcmp_anti k n l m s t]
    generalize vcmp k n s l m t = x at *
    generalize vcmp l m t p q u = y at *
    generalize vcmp k n s p q u = z at *
    have e1 : IntKind.i64.wrap (0 - -x) = x := by rw [show (0 : Int) - -x = x by omega]; exact wrap_small c1
    rw [e1]
    cases decide ((s.length : Int) ≤ 5000) <;> cases decide ((t.length : Int) ≤ 5000) <;> cases decide ((u.length : Int) ≤ 5000) <;> simp only [Bool.not_true, Bool.not_false, cnd_tt, cnd_ff]
    simp only [decide_true, Bool.not_true, cnd_ff]
    refine (cnd_no ?_).trans ?_
    · by_cases hx : x = 0
      · obtain ⟨r1, r2, r3⟩ := hz.1 hx
        simp [hx, r1, r2, r3]
      · have : ¬ (k = l ∧ n = m ∧ s = t) := fun h => hx (hz.2 h)
        by_cases r1 : k = l
        · by_cases r2 : n = m
          · by_cases r3 : s = t
            · exact absurd ⟨r1, r2, r3⟩ this
            · simp [hx, r3]
          · simp [hx, r2]
        · simp [hx, r1]
    rw [cnd_n (p := x < -1) (by omega), cnd_n (p := x > 1) (by omega)]
    by_cases h1 : x > 0 <;> by_cases h2 : y > 0 <;> by_cases h3 : z ≤ 0 <;> by_cases h4 : x ≥ 0 <;> by_cases h5 : z < 0 <;>
      simp only [decide_eq_true_eq, h1, h2, h3, h4, h5, decide_true, decide_false, cnd_tt, cnd_ff] <;> (exfalso; omega)
  · simp [Tr.val_no] at h
end Go.PS
end

section
set_option maxRecDepth 100000
namespace Go.Proofs.YtihpkebhgkfiaaaDoor
open Go.PS Go.Shelf Go.Lib
open Go.ChangeShapes Go.WideShapes Go.ChangeAt Go.RowKit
open Go.ChangeMaps (open_string shut_string)

theorem cells33 : Tryd.prog.cellsOf 33 = 3 := by kernel_rfl
theorem cells31 : Tryd.prog.cellsOf 31 = 1 := by kernel_rfl
theorem cells3 : Tryd.prog.cellsOf 3 = 1 := by kernel_rfl
theorem cells9 : Tryd.prog.cellsOf 9 = 1 := by kernel_rfl

section
variable {H : Type} {enc : TypeId × Value → H} {W : World} {base : Nat} {sp : Nat → Bool} {held : Bool}
/-- an argument of the type api.Value, opened -/
theorem open_value {r : Reach} {b0 : Nat} {v : Value} {d : DataW H} {ps : List MemPlace} (hval : Value.okWide Tryd.prog W r b0 33 v) (hd : DataW.Trod enc Tryd.prog W base sp held 33 v d ps) :
    ∃ (k n : Int) (s : ByteArray), v = .agg #[.int .i64 k, .int .i64 n, .string s] ∧ d = .agg [.lit (.int .i64 k), .lit (.int .i64 n), .lit (.string s.data.toList)] ∧ ps = [] ∧ (Lit.int .i64 k).wf = true ∧ (Lit.int .i64 n).wf = true ∧ s.size ≤ maxLen := by
  obtain ⟨cs, rfl, hc⟩ := okWide_struct Tryd.underlying33 hval
  rw [cells33] at hc
  obtain ⟨l⟩ := cs
  match l, hc with
  | [c0, c1, c2], _ =>
  obtain ⟨fuel, hf⟩ := hd
  obtain ⟨xs, m, _, ex, _, hl, hel⟩ := DataW.trod_struct Tryd.underlying33 hf
  have hl3 : xs.length = 3 := hl
  match xs, hl3 with
  | [x0, x1, x2], _ =>
  have h0 := hel 0 _ rfl
  have h1 := hel 1 _ rfl
  have h2 := hel 2 _ rfl
  simp only [Value.cells] at h0 h1 h2
  obtain ⟨k, e0, y0, wk⟩ := DataW.trod_int Tryd.underlying31 h0
  obtain ⟨n, e1, y1, wn⟩ := DataW.trod_int Tryd.underlying3 h1
  obtain ⟨s, e2, y2, hs⟩ := DataW.trod_string Tryd.underlying9 h2
  simp [cells31, cells3, cells9] at e0 e1 e2
  subst e0; subst e1; subst e2; subst y0; subst y1; subst y2
  simp at ex
  exact ⟨k, n, s, rfl, ex.1, ex.2, wk, wn, hs⟩
theorem shut_value {k n : Int} {s : ByteArray} (wk : (Lit.int .i64 k).wf = true) (wn : (Lit.int .i64 n).wf = true) (hs : s.size ≤ maxLen) :
    DataW.Trod enc Tryd.prog W base sp held 33 (.agg #[.int .i64 k, .int .i64 n, .string s]) (.agg [.lit (.int .i64 k), .lit (.int .i64 n), .lit (.string s.data.toList)]) [] :=
  ⟨2, by
    show DataW.trod enc Tryd.prog W base sp held (1 + 1) 33 [.int .i64 k, .int .i64 n, .string s] = _
    rw [DataW.trod_step]
    unfold DataW.trodStep
    simp only [Tryd.underlying33]
    simp [cells33, cells31, cells3, cells9, DataW.trod, Tryd.underlying31, Tryd.underlying3, Tryd.underlying9, wk, wn, hs]⟩

theorem enc_value {k n : Int} {s : ByteArray} (hs : s.size ≤ maxLen) : PEnc bare W [] (.d (.agg [.int .i64 k, .int .i64 n, .str s.data.toList])) (.agg #[.int .i64 k, .int .i64 n, .string s]) := by
  have e : (⟨s.data.toList.toArray⟩ : ByteArray) = s := by cases s; simp
  have h1 : Enc bare W (.str s.data.toList) (.string ⟨s.data.toList.toArray⟩) := .str _ (by
      rw [← Lib.size_eq]; unfold maxLen at hs; omega)
  rw [e] at h1
  exact .d (.agg _ _ (.cons (.int _ _) (.cons (.int _ _) (.cons h1 .nil))) (fun v hv => by
    simp at hv
    rcases hv with rfl | rfl | rfl <;> rfl))
/-- a law that PS proves true returns true in the model and leaves what was there. -/
theorem law_true {f : Nat} {S : List PV → Tr PV} {vs : List PV} {xs : List Value} (h : EKOk Tryd.prog W f (.pure S)) (hx : PEncL bare W [] vs xs) (hS : (S vs).val = some (.d (.bool true))) :
    Calls Tryd.prog f xs.toArray W fun e W' => e = .returned (.bool true) ∧ Below W.heap.size W W' := by
  refine (SoundP.calls h vs _ hS bare [] W xs (gl_bare W) (fun _ _ _ h => by cases h) hx).mono ?_
  rintro e W' ⟨x, o', rfl, hg, hx, _⟩
  refine ⟨?_, hg.os, hg.tape, hg.output, hg.size, fun k hk => (hg.same k hk).1⟩
  rw [hx.bool_inv]
end

theorem order_lifted (os : Os) (started : os.Started) (H : Type) (enc : TypeId × Value → H) :
    ReturnsInHanded {} Tryd.checked os 8 .any (fun w args => (Rows.valueOrderSpec.pre enc Tryd.prog Tryd.f8 Rows.valueOrderRow.domain false w args ∧ laidMetH Tryd.prog Rows.valueOrderRow.laid w) ∧ sizedMet enc Tryd.prog Tryd.f8 (OpenSpec.ofChange Rows.valueOrderSpec) false w args)
      (Rows.valueOrderSpec.post enc Tryd.prog Tryd.f8 false true false false) := by
  refine returnsInHanded_of_change_and (C := Tryd.checked) (X := fun w _ => laidMetH Tryd.prog Rows.valueOrderRow.laid w) (fun _ _ _ hh h => h.of_heap hh) own started (by kernel_rfl) Tryd.func8
    (ChangeSpec.witness_at (enc := enc) (C := Tryd.checked) (os := os) (X := fun w _ => laidMetH Tryd.prog Rows.valueOrderRow.laid w) false (World.laidAll Tryd.prog os laid) #[.agg #[.int .i64 0, .int .i64 0, .string ⟨#[]⟩], .agg #[.int .i64 0, .int .i64 0, .string ⟨#[]⟩], .agg #[.int .i64 0, .int .i64 0, .string ⟨#[]⟩]] 8 (World.laidAll_os _ _ _) (by kernel_rfl) (by kernel_rfl) (by kernel_rfl) (by kernel_rfl) (by kernel_rfl) (laid_met os _)) ?_
  intro W base args ds gs before hval0 hW _ _ hL _
  have hval : ∀ (j : Nat) t v, Tryd.f8.params[j]? = some t → args[j]? = some v → Value.okWide Tryd.prog W .any base t v := hval0
  have hW' := hW
  obtain ⟨p, q, hA0, hV0, rfl, _, _⟩ := hW
  have hA : DataW.TrodAll enc Tryd.prog W 0 (fun _ => true) true Tryd.f8.params.toList args.toList ds p := hA0
  rw [Tryd.params8] at hA hval
  obtain ⟨v0, v1, v2, d0, d1, d2, p0, p1, p2, rfl, rfl, rfl, h0, h1, h2⟩ := trodAll_three hA
  obtain ⟨rfl, rfl⟩ := trodVars_none hV0
  obtain ⟨k, n, s, rfl, rfl, rfl, wk, wn, ws⟩ := open_value (hval 0 33 _ rfl rfl) h0
  obtain ⟨l, m, t, rfl, rfl, rfl, wl, wm, wt⟩ := open_value (hval 1 33 _ rfl rfl) h1
  obtain ⟨i, j, u, rfl, rfl, rfl, wi, wj, wu⟩ := open_value (hval 2 33 _ rfl rfl) h2
  have e1 : ∀ d0 d1 d2 : DataW H, Rows.valueOrderSpec.fn H ([d0, d1, d2] ++ []) = { results := [.lit (.bool true)], args := [d0, d1, d2] } := fun _ _ _ => rfl
  refine (law_true (ok8 W (laid_world hL)) (.cons (enc_value ws) (.cons (enc_value wt) (.cons (enc_value wu) .nil))) rfl).mono ?_
  rintro e W' ⟨rfl, bel⟩
  refine ⟨_, rfl, _, _, _, [], [], [], hW', ?_, ?_, ?_, bel.frame _, fun h => by cases h⟩
  · rw [e1]; exact trodAll_mk1 (shut_bool Tryd.underlying4 true)
  · rw [e1]; exact trodAll_mk3 (shut_value wk wn ws) (shut_value wl wm wt) (shut_value wi wj wu)
  · rw [e1]; rfl

theorem order_holds : Rows.ValueOrderSaid :=
  OpenClaim.holds_of_wide 8 Tryd.f8 rfl rfl rfl rfl rfl rfl rfl ⟨rfl, rfl, rfl, rfl, rfl⟩ rfl rfl rfl rfl rfl (by kernel_rfl) Tryd.func8 (by kernel_rfl)
    (of_decide_eq_true (by kernel_rfl)) (by unfold Func.isWrapper; rw [if_neg (of_decide_eq_false (by kernel_rfl))]; exact ⟨rfl, rfl⟩)
    (fun os started H enc _ => order_lifted os started H enc)
end Go.Proofs.YtihpkebhgkfiaaaDoor
end

section
namespace Go.Proofs.YtihpkebhgkfiaaaDoor
open Go

theorem valueOrder_card : Rows.ValueOrderCardSaid :=
  Claim7.holds_tied_plain_at .later [] [.data, .data, .data, .data, .sentinel, .sentinel, .pinned] true (true, "36bbe3e7eaadf27dabe13b421857fca0247e9a5d163028c61325c415c9f7cfbc") true
    order_holds (fun _ h => by cases h) (by kernel_rfl) (fun _ h => by cases h) valueOrder_row_tie rfl ⟨rfl, rfl⟩ (by kernel_rfl) rfl
    (fun f fn hf hfn => by
      obtain rfl : f = 8 := Option.some.inj ((show Tryd.prog.funcNamed "fasti/fastilaw01.ValueOrder" = some 8 by kernel_rfl).symm.trans hf) |>.symm
      obtain rfl : fn = Tryd.f8 := (Option.some.inj (Tryd.func8.symm.trans hfn)).symm
      exact ⟨by kernel_rfl, fun j t ht => by
        rw [Tryd.params8] at ht
        have h9 : t = 33 := by
          rcases j with _ | _ | _ | j
          · simpa using ht.symm
          · simpa using ht.symm
          · simpa using ht.symm
          · simp at ht
        subst h9
        exact (show Tryd.prog.wantsStandIn 33 = false by kernel_rfl)⟩)
    (by kernel_rfl)
#print axioms valueOrder_card
end Go.Proofs.YtihpkebhgkfiaaaDoor
end
