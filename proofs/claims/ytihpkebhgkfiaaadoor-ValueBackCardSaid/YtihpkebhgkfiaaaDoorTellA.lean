/- A part of the proof of the claim (the pure semantics PS and the contracts of the functions over it). -/
import Derived.Test.YtihpkebhgkfiaaaDoorVaC
import Derived.Test.YtihpkebhgkfiaaaDoorVaB
import Derived.Test.YtihpkebhgkfiaaaDoorPsE
import Derived.Lib.MapLaws
set_option linter.all false
section
namespace Go.PS
open Go.Proofs
def S88 : List PV → Tr PV
  | [.d (.int .i64 _)] => .ok (.d (.bool false))
  | _ => .no
def cmpI (a b : Int) : Int := if a < b then -1 else if b < a then 1 else 0
def S57 : List PV → Tr PV
  | [.d (.int .i64 a), .d (.int .i64 b)] => .ok (.d (.int .i64 (cmpI a b)))
  | _ => .no
def vcmp (k n : Int) (s : List UInt8) (l m : Int) (t : List UInt8) : Int := if cmpI k l = 0 then (if cmpI n m = 0 then Lib.compareBytes s t else cmpI n m) else cmpI k l
def S26 : List PV → Tr PV
  | [.d (.agg [.int .i64 k, .int .i64 n, .str s]), .d (.agg [.int .i64 l, .int .i64 m, .str t])] => .ok (.d (.int .i64 (vcmp k n s l m t)))
  | _ => .no
def S19 : List PV → Tr PV
  | [.d (.agg [.int .i64 _, .int .i64 _, .str s])] => .ok (.d (.bool (decide ((s.length : Int) ≤ 5000))))
  | _ => .no
def S8 : List PV → Tr PV
  | [.d (.agg [.int .i64 _, .int .i64 _, .str _]), .d (.agg [.int .i64 _, .int .i64 _, .str _]), .d (.agg [.int .i64 _, .int .i64 _, .str _])] => .ok (.d (.bool true))
  | _ => .no
end Go.PS
end

section
namespace Go.PS
open Go.Proofs
set_option maxRecDepth 100000
/-! cmp.isNaN fasti api.ValueKind  -/
theorem fn88 : FnOk Tryd.prog 88 6 [.tmp 2] (body Tryd.f88) := ⟨Tryd.f88, Tryd.func88, bodySome _ (by kernel_rfl), by kernel_rfl, by kernel_rfl, by kernel_rfl, by kernel_rfl⟩
theorem run88 (F : Nat) (n : Int) : runP (ctx F []) noL 6 [.tmp 2] (body Tryd.f88) [.d (.int .i64 n)] =
    Tr.val
      (.ok (PV.d (DV.bool !decide (n = n)))) := by kernel_rfl
/-! cmp.isNaN int  -/
theorem fn89 : FnOk Tryd.prog 89 6 [.tmp 2] (body Tryd.f89) := ⟨Tryd.f89, Tryd.func89, bodySome _ (by kernel_rfl), by kernel_rfl, by kernel_rfl, by kernel_rfl, by kernel_rfl⟩
theorem run89 (F : Nat) (n : Int) : runP (ctx F []) noL 6 [.tmp 2] (body Tryd.f89) [.d (.int .i64 n)] =
    Tr.val
      (.ok (PV.d (DV.bool !decide (n = n)))) := by kernel_rfl
/-! cmp.Compare fasti api.ValueKind  -/
theorem fn57 : FnOk Tryd.prog 57 20 [.tmp 4] (body Tryd.f57) := ⟨Tryd.f57, Tryd.func57, bodySome _ (by kernel_rfl), by kernel_rfl, by kernel_rfl, by kernel_rfl, by kernel_rfl⟩
theorem run57 (F : Nat) (a b : Int) : runP (ctx F [(88, .pure S88)]) noL 20 [.tmp 4] (body Tryd.f57) [.d (.int .i64 a), .d (.int .i64 b)] =
    Tr.val
      (.cnd (decide (a < b))
        (.ok (PV.d (DV.int IntKind.i64 (Int.negSucc 0))))
        (.cnd (decide (a > b))
          (.ok (PV.d (DV.int IntKind.i64 (1))))
          (.ok (PV.d (DV.int IntKind.i64 (0)))))) := by kernel_rfl
/-! cmp.Compare int  -/
theorem fn58 : FnOk Tryd.prog 58 20 [.tmp 4] (body Tryd.f58) := ⟨Tryd.f58, Tryd.func58, bodySome _ (by kernel_rfl), by kernel_rfl, by kernel_rfl, by kernel_rfl, by kernel_rfl⟩
theorem run58 (F : Nat) (a b : Int) : runP (ctx F [(89, .pure S88)]) noL 20 [.tmp 4] (body Tryd.f58) [.d (.int .i64 a), .d (.int .i64 b)] =
    Tr.val
      (.cnd (decide (a < b))
        (.ok (PV.d (DV.int IntKind.i64 (Int.negSucc 0))))
        (.cnd (decide (a > b))
          (.ok (PV.d (DV.int IntKind.i64 (1))))
          (.ok (PV.d (DV.int IntKind.i64 (0)))))) := by kernel_rfl
/-! fasti value.Cmp -/
theorem fn26 : FnOk Tryd.prog 26 28 [.tmp 4] (body Tryd.f26) := ⟨Tryd.f26, Tryd.func26, bodySome _ (by kernel_rfl), by kernel_rfl, by kernel_rfl, by kernel_rfl, by kernel_rfl⟩
theorem run26 (F : Nat) (k n l m : Int) (s t : List UInt8) : runP (ctx F [(57, .pure S57), (58, .pure S57), (59, .pure S59)]) noL 28 [.tmp 4] (body Tryd.f26) [.d (.agg [.int .i64 k, .int .i64 n, .str s]), .d (.agg [.int .i64 l, .int .i64 m, .str t])] =
    Tr.val
      (.cnd (!decide (cmpI k l = 0))
        (.ok (PV.d (DV.int IntKind.i64 (cmpI k l))))
        (.cnd (!decide (cmpI n m = 0))
          (.ok (PV.d (DV.int IntKind.i64 (cmpI n m))))
          (.ok (PV.d (DV.int IntKind.i64 (Lib.compareBytes s t)))))) := by kernel_rfl
/-! fasti fastilaw01.ValueOrder -/
theorem fn8 : FnOk Tryd.prog 8 80 [.tmp 6] (body Tryd.f8) := ⟨Tryd.f8, Tryd.func8, bodySome _ (by kernel_rfl), by kernel_rfl, by kernel_rfl, by kernel_rfl, by kernel_rfl⟩
theorem run8 (F : Nat) (k n l m p q : Int) (s t u : List UInt8) : runP (ctx F [(19, .pure S19), (26, .pure S26), (16, .pure S16)]) noL 80 [.tmp 6] (body Tryd.f8) [.d (.agg [.int .i64 k, .int .i64 n, .str s]), .d (.agg [.int .i64 l, .int .i64 m, .str t]), .d (.agg [.int .i64 p, .int .i64 q, .str u])] =
    Tr.val
      (.cnd (!decide ((↑s.length : Int) ≤ 5000))
        (.ok (PV.d (DV.bool true)))
        (.cnd (!decide ((↑t.length : Int) ≤ 5000))
          (.ok (PV.d (DV.bool true)))
          (.cnd (!decide ((↑u.length : Int) ≤ 5000))
            (.ok (PV.d (DV.bool true)))
            (.cnd (!decide (vcmp k n s l m t = IntKind.i64.wrap (0 - vcmp l m t k n s)))
              (.ok (PV.d (DV.bool false)))
              (.cnd (!decide (vcmp k n s l m t = 0) == (decide (k = l) && (decide (n = m) && (decide (s = t) && true))))
                (.ok (PV.d (DV.bool false)))
                (.cnd (decide (vcmp k n s l m t < -1))
                  (.ok (PV.d (DV.bool false)))
                  (.cnd (decide (vcmp k n s l m t > 1))
                    (.ok (PV.d (DV.bool false)))
                    (.cnd (decide (vcmp k n s l m t > 0))
                      (.cnd (decide (vcmp k n s l m t ≥ 0))
                        (.ok (PV.d (DV.bool true)))
                        (.cnd (decide (vcmp l m t p q u > 0))
                          (.ok (PV.d (DV.bool true)))
                          (.cnd (decide (vcmp k n s p q u < 0))
                            (.ok (PV.d (DV.bool true)))
                            (.ok (PV.d (DV.bool false))))))
                      (.cnd (decide (vcmp l m t p q u > 0))
                        (.cnd (decide (vcmp k n s l m t ≥ 0))
                          (.ok (PV.d (DV.bool true)))
                          (.cnd (decide (vcmp l m t p q u > 0))
                            (.ok (PV.d (DV.bool true)))
                            (.cnd (decide (vcmp k n s p q u < 0))
                              (.ok (PV.d (DV.bool true)))
                              (.ok (PV.d (DV.bool false))))))
                        (.cnd (decide (vcmp k n s p q u ≤ 0))
                          (.cnd (decide (vcmp k n s l m t ≥ 0))
                            (.ok (PV.d (DV.bool true)))
                            (.cnd (decide (vcmp l m t p q u > 0))
                              (.ok (PV.d (DV.bool true)))
                              (.cnd (decide (vcmp k n s p q u < 0))
                                (.ok (PV.d (DV.bool true)))
                                (.ok (PV.d (DV.bool false))))))
                          (.ok (PV.d (DV.bool false))))))))))))) := by kernel_rfl
/-! fasti fastilaw01.short -/
theorem fn19 : FnOk Tryd.prog 19 7 [.tmp 2] (body Tryd.f19) := ⟨Tryd.f19, Tryd.func19, bodySome _ (by kernel_rfl), by kernel_rfl, by kernel_rfl, by kernel_rfl, by kernel_rfl⟩
theorem run19 (F : Nat) (k n : Int) (s : List UInt8) : runP (ctx F []) noL 7 [.tmp 2] (body Tryd.f19) [.d (.agg [.int .i64 k, .int .i64 n, .str s])] =
    Tr.val
      (.ok (PV.d (DV.bool (decide ((↑s.length : Int) ≤ 5000))))) := by kernel_rfl
end Go.PS
end

section
namespace Go.PS
open Go.Proofs

/-- how three comparisons hang together -/
def Cmp3 (x y z : Int) : Prop := (-1 ≤ x ∧ x ≤ 1) ∧ (-1 ≤ y ∧ y ≤ 1) ∧ (-1 ≤ z ∧ z ≤ 1) ∧ (x = 0 → z = y) ∧ (y = 0 → z = x) ∧ (x < 0 → y < 0 → z < 0) ∧ (0 < x → 0 < y → 0 < z)

theorem cmpI_three (a b c : Int) : Cmp3 (cmpI a b) (cmpI b c) (cmpI a c) := by
  unfold Cmp3 cmpI
  refine ⟨?_, ?_, ?_, ?_, ?_, ?_, ?_⟩ <;> split <;> (try split) <;> (try split) <;> (try split) <;> (try split) <;> (try split) <;> omega
theorem cmpI_anti (a b : Int) : cmpI b a = - cmpI a b := by unfold cmpI; split <;> split <;> omega
theorem cmpI_zero (a b : Int) : cmpI a b = 0 ↔ a = b := by unfold cmpI; split <;> (try split) <;> omega

theorem cb_anti : ∀ s t : List UInt8, Lib.compareBytes t s = - Lib.compareBytes s t
  | [], [] => rfl
  | [], _ :: _ => rfl
  | _ :: _, [] => rfl
  | a :: s, b :: t => by
    unfold Lib.compareBytes
    have := cb_anti s t
    simp only [UInt8.lt_iff_toNat_lt]
    split <;> split <;> omega
theorem cb_zero : ∀ s t : List UInt8, Lib.compareBytes s t = 0 ↔ s = t
  | [], [] => by simp [Lib.compareBytes]
  | [], _ :: _ => by simp [Lib.compareBytes]
  | _ :: _, [] => by simp [Lib.compareBytes]
  | a :: s, b :: t => by
    unfold Lib.compareBytes
    have := cb_zero s t
    simp only [UInt8.lt_iff_toNat_lt, List.cons.injEq, ← UInt8.toNat_inj]
    split
    · constructor
      · intro h; omega
      · intro h; omega
    · split
      · constructor
        · intro h; omega
        · intro h; omega
      · rw [this]; constructor
        · intro h; exact ⟨by omega, h⟩
        · intro h; exact h.2
theorem cb_range : ∀ s t : List UInt8, -1 ≤ Lib.compareBytes s t ∧ Lib.compareBytes s t ≤ 1
  | [], [] => by simp [Lib.compareBytes]
  | [], _ :: _ => by simp [Lib.compareBytes]
  | _ :: _, [] => by simp [Lib.compareBytes]
  | a :: s, b :: t => by
    unfold Lib.compareBytes
    have := cb_range s t
    split <;> (try split) <;> omega
theorem cb_three : ∀ s t u : List UInt8, Lib.compareBytes s t < 0 → Lib.compareBytes t u < 0 → Lib.compareBytes s u < 0
  | [], [], _ => by simp [Lib.compareBytes]
  | [], _ :: _, [] => by simp [Lib.compareBytes]
  | [], _ :: _, _ :: _ => by simp [Lib.compareBytes]
  | _ :: _, [], _ => by simp [Lib.compareBytes]
  | _ :: _, _ :: _, [] => by simp [Lib.compareBytes]
  | a :: s, b :: t, c :: u => by
    unfold Lib.compareBytes
    have := cb_three s t u
    simp only [UInt8.lt_iff_toNat_lt]
    intro h1 h2
    split at h1
    · split at h2
      · rw [if_pos (by omega)]; omega
      · split at h2
        · omega
        · rw [if_pos (by omega)]; omega
    · split at h1
      · omega
      · split at h2
        · rw [if_pos (by omega)]; omega
        · split at h2
          · omega
          · rw [if_neg (by omega), if_neg (by omega)]; exact this h1 h2
theorem cb_Cmp3 (s t u : List UInt8) : Cmp3 (Lib.compareBytes s t) (Lib.compareBytes t u) (Lib.compareBytes s u) := by
  refine ⟨cb_range _ _, cb_range _ _, cb_range _ _, fun h => ?_, fun h => ?_, cb_three s t u, fun h1 h2 => ?_⟩
  · rw [cb_zero] at h; rw [h]
  · rw [cb_zero] at h; rw [h]
  · have := cb_three u t s (by rw [cb_anti t u]; omega) (by rw [cb_anti s t]; omega)
    rw [cb_anti s u] at this; omega
theorem lex3 {x1 y1 z1 x2 y2 z2 : Int} (h : Cmp3 x1 y1 z1) (g : Cmp3 x2 y2 z2) : Cmp3 (if x1 = 0 then x2 else x1) (if y1 = 0 then y2 else y1) (if z1 = 0 then z2 else z1) := by
  obtain ⟨a1, a2, a3, a4, a5, a6, a7⟩ := h
  obtain ⟨b1, b2, b3, b4, b5, b6, b7⟩ := g
  by_cases hx : x1 = 0
  · rw [a4 hx]
    by_cases hy : y1 = 0
    · rw [if_pos hx, if_pos hy, if_pos hy]; exact ⟨b1, b2, b3, b4, b5, b6, b7⟩
    · rw [if_pos hx, if_neg hy, if_neg hy]; exact ⟨b1, a2, a2, fun _ => rfl, fun h => absurd h hy, by omega, by omega⟩
  · by_cases hy : y1 = 0
    · rw [a5 hy]
      rw [if_neg hx, if_pos hy, if_neg hx]; exact ⟨a1, b2, a1, fun h => absurd h hx, fun _ => rfl, by omega, by omega⟩
    · rw [if_neg hx, if_neg hy]
      refine ⟨a1, a2, ?_, fun h => absurd h hx, fun h => absurd h hy, fun h1 h2 => ?_, fun h1 h2 => ?_⟩
      · split
        · exact b3
        · exact a3
      · have := a6 h1 h2; rw [if_neg (by omega)]; exact this
      · have := a7 h1 h2; rw [if_neg (by omega)]; exact this
theorem vcmp_three (k n l m p q : Int) (s t u : List UInt8) : Cmp3 (vcmp k n s l m t) (vcmp l m t p q u) (vcmp k n s p q u) :=
  lex3 (cmpI_three k l p) (lex3 (cmpI_three n m q) (cb_Cmp3 s t u))
theorem vcmp_anti (k n l m : Int) (s t : List UInt8) : vcmp l m t k n s = - vcmp k n s l m t := by
  unfold vcmp
  have h1 := cmpI_anti k l
  have h2 := cmpI_anti n m
  have h3 := cb_anti s t
  rw [h1, h2, h3]
  split <;> (try split) <;> (try split) <;> (try split) <;> omega
theorem vcmp_zero (k n l m : Int) (s t : List UInt8) : vcmp k n s l m t = 0 ↔ (k = l ∧ n = m ∧ s = t) := by
  unfold vcmp
  have h1 := cmpI_zero k l
  have h2 := cmpI_zero n m
  have h3 := cb_zero s t
  by_cases a : cmpI k l = 0
  · rw [if_pos a]
    by_cases b : cmpI n m = 0
    · rw [if_pos b, h3]; exact ⟨fun h => ⟨h1.1 a, h2.1 b, h⟩, fun h => h.2.2⟩
    · rw [if_neg b]; exact ⟨fun h => absurd h b, fun h => absurd (h2.2 h.2.1) b⟩
  · rw [if_neg a]; exact ⟨fun h => absurd h a, fun h => absurd (h1.2 h.1) a⟩

theorem ok88 (W0 : World) : EKOk Tryd.prog W0 88 (.pure S88) := by
  refine pure_of (tyOk 0 []) (look_ok all_nil) mixed fn88 (lpsOk_no _ _) fun args r h => ?_
  unfold S88 at h
  split at h
  · rename_i n
    refine (run88 0 n).trans ?_
    rw [← h]; simp
  · simp [Tr.val_no] at h
theorem ok89 (W0 : World) : EKOk Tryd.prog W0 89 (.pure S88) := by
  refine pure_of (tyOk 0 []) (look_ok all_nil) mixed fn89 (lpsOk_no _ _) fun args r h => ?_
  unfold S88 at h
  split at h
  · rename_i n
    refine (run89 0 n).trans ?_
    rw [← h]; simp
  · simp [Tr.val_no] at h
theorem cmpI_tree (a b : Int) : Tr.val (.cnd (decide (a < b)) (.ok (PV.d (DV.int IntKind.i64 (Int.negSucc 0)))) (.cnd (decide (a > b)) (.ok (PV.d (DV.int IntKind.i64 (1)))) (.ok (PV.d (DV.int IntKind.i64 (0)))))) = some (.d (.int .i64 (cmpI a b))) := by
  simp only [Tr.val_ok, Tr.val_cnd]
  unfold cmpI
  by_cases h1 : a < b
  · rw [cnd_p h1, if_pos h1]; rfl
  · rw [cnd_n h1, if_neg h1]
    by_cases h2 : b < a
    · rw [cnd_p (p := a > b) h2, if_pos h2]
    · rw [cnd_n (p := a > b) h2, if_neg h2]
theorem ok57 (W0 : World) : EKOk Tryd.prog W0 57 (.pure S57) := by
  refine pure_of (tyOk 0 [(88, .pure S88)]) (look_ok (all_cons (ok88 W0) all_nil)) mixed fn57 (lpsOk_no _ _) fun args r h => ?_
  unfold S57 at h
  split at h
  · rename_i a b
    refine (run57 0 a b).trans ?_
    rw [← h, cmpI_tree]; rfl
  · simp [Tr.val_no] at h
theorem ok58 (W0 : World) : EKOk Tryd.prog W0 58 (.pure S57) := by
  refine pure_of (tyOk 0 [(89, .pure S88)]) (look_ok (all_cons (ok89 W0) all_nil)) mixed fn58 (lpsOk_no _ _) fun args r h => ?_
  unfold S57 at h
  split at h
  · rename_i a b
    refine (run58 0 a b).trans ?_
    rw [← h, cmpI_tree]; rfl
  · simp [Tr.val_no] at h
theorem ok26 (W0 : World) : EKOk Tryd.prog W0 26 (.pure S26) := by
  refine pure_of (tyOk 0 [(57, .pure S57), (58, .pure S57), (59, .pure S59)]) (look_ok (all_cons (ok57 W0) (all_cons (ok58 W0) (all_cons ok59 all_nil)))) mixed fn26 (lpsOk_no _ _) fun args r h => ?_
  unfold S26 at h
  split at h
  · rename_i k n s l m t
    refine (run26 0 k n l m s t).trans ?_
    rw [← h]
    simp only [Tr.val_ok, Tr.val_cnd]
    unfold vcmp
    by_cases a : cmpI k l = 0
    · rw [if_pos a, decide_eq_true a]
      by_cases b : cmpI n m = 0
      · rw [if_pos b, decide_eq_true b]; rfl
      · rw [if_neg b, decide_eq_false b]; rfl
    · rw [if_neg a, decide_eq_false a]; rfl
  · simp [Tr.val_no] at h
theorem ok19 (W0 : World) : EKOk Tryd.prog W0 19 (.pure S19) := by
  refine pure_of (tyOk 0 []) (look_ok all_nil) mixed fn19 (lpsOk_no _ _) fun args r h => ?_
  unfold S19 at h
  split at h
  · rename_i k n s
    exact (run19 0 k n s).trans h
  · simp [Tr.val_no] at h
theorem wrap_small {x : Int} (h : -1 ≤ x ∧ x ≤ 1) : IntKind.i64.wrap x = x := by
  have : x = -1 ∨ x = 0 ∨ x = 1 := by omega
  rcases this with rfl | rfl | rfl <;> rfl
theorem cnd_no {R : Type} {b : Bool} {x y : Option R} (h : b = false) : PS.cnd b x y = y := by rw [h]; rfl
theorem ok8 (W0 : World) (hW : Laid W0) : EKOk Tryd.prog W0 8 (.pure S8) := by
  refine pure_of (tyOk 0 [(19, .pure S19), (26, .pure S26), (16, .pure S16)]) (look_ok (all_cons (ok19 W0) (all_cons (ok26 W0) (all_cons (ok16 W0 hW) all_nil)))) mixed fn8 (lpsOk_no _ _) fun args r h => ?_
  unfold S8 at h
  split at h
  · rename_i k n s l m t p q u
    refine (run8 0 k n l m p q s t u).trans ?_
    rw [← h]
    simp only [Tr.val_ok, Tr.val_cnd]
    obtain ⟨c1, c2, c3, c4, c5, c6, c7⟩ := vcmp_three k n l m p q s t u
    have hz := vcmp_zero k n l m s t
    rw [vcmp_anti k n l m s t]
    generalize vcmp k n s l m t = x at *
    generalize vcmp l m t p q u = y at *
    generalize vcmp k n s p q u = z at *
    have e1 : IntKind.i64.wrap (0 - -x) = x := by rw [show (0 : Int) - -x = x by omega]; exact wrap_small c1
    rw [e1]
    cases decide ((s.length : Int) ≤ 5000) <;> cases decide ((t.length : Int) ≤ 5000) <;> cases decide ((u.length : Int) ≤ 5000) <;> simp only [Bool.not_true, Bool.not_false, cnd_tt, cnd_ff]
    simp only [decide_true, Bool.not_true, cnd_ff]
    refine (cnd_no ?_).trans ?_
    · by_cases hx : x = 0
      · obtain ⟨r1, r2, r3⟩ := hz.1 hx
        simp [hx, r1, r2, r3]
      · have : ¬ (k = l ∧ n = m ∧ s = t) := fun h => hx (hz.2 h)
        by_cases r1 : k = l
        · by_cases r2 : n = m
          · by_cases r3 : s = t
            · exact absurd ⟨r1, r2, r3⟩ this
            · simp [hx, r3]
          · simp [hx, r2]
        · simp [hx, r1]
    rw [cnd_n (p := x < -1) (by omega), cnd_n (p := x > 1) (by omega)]
    by_cases h1 : x > 0 <;> by_cases h2 : y > 0 <;> by_cases h3 : z ≤ 0 <;> by_cases h4 : x ≥ 0 <;> by_cases h5 : z < 0 <;>
      simp only [decide_eq_true_eq, h1, h2, h3, h4, h5, decide_true, decide_false, cnd_tt, cnd_ff] <;> (exfalso; omega)
  · simp [Tr.val_no] at h
end Go.PS
end

section
namespace Go.PS
open Go.Proofs
theorem cnd_i {R : Type} (b : Bool) (x y : Option R) : PS.cnd b x y = if b = true then x else y := by cases b <;> rfl
theorem chk_i {R : Type} (b : Bool) (x : Option R) : PS.chk b x = if b = true then x else none := by cases b <;> rfl
theorem udec (s : List UInt8) (k : Nat) : Utf8.decode ⟨s.toArray⟩ k = dec s k := by
  rw [Lib.decode_at]
  simp only [get_bang]
  unfold dec byt
  have hs : (⟨s.toArray⟩ : ByteArray).size = s.length := by show s.toArray.size = _; simp
  rw [hs]
theorem runeN_drop (s : List UInt8) (k : Nat) (h : k < s.length) : runeN (s.drop k) = ((dec s k).2 : Int) := by
  unfold runeN
  rw [dec_drop s k h]
def hexDig (n : Int) : UInt8 := ([48, 49, 50, 51, 52, 53, 54, 55, 56, 57, 97, 98, 99, 100, 101, 102] : List UInt8).getD n.toNat 0
def enc (r : Int) : List UInt8 := (Utf8.encode r).data.toList
/-- a rune as it is written -/
def writ (r : Int) : List UInt8 :=
  if r = 34 ∨ r = 92 then 92 :: enc r
  else if r = 10 then [92, 110]
  else if r < 32 ∨ r = 127 then [92, 120, hexDig (r / 16), hexDig (r % 16)]
  else enc r
def S60 : List PV → List PObj → Tr (Out × List PObj)
  | [.d (.int .i64 _), .d (.int .i32 _), .ptr 0 0], [.cells [.d (.int .i64 n)]] => .chk (decide (0 ≤ n) && decide (n ≤ big)) (.ok (.ret (.tup []), [.cells [.d (.int .i64 (n + 1))]]))
  | _, _ => .no
def S55 : List PV → Tr PV
  | [.d (.int .i32 r)] => .chk (decide (0 ≤ r)) (.ok (.d (.str (writ r))))
  | _ => .no
def S54 : List PV → List PObj → Tr (Out × List PObj)
  | [.d (.int .i64 _), .d (.int .i32 r), .ptr 0 0], [.cells [.own 1 l]] => .chk (decide (0 ≤ r) && decide (l.length ≤ big)) (.ok (.ret (.tup []), [.cells [.own 1 (l ++ [.str (writ r)])]]))
  | _, _ => .no
/-- a text's runes: do all stand, the place behind them, and they -/
def eachR (s : List UInt8) : Nat → Nat → Bool × Nat × List Int
  | 0, k => (true, k, [])
  | m + 1, k => if k < s.length then (if width s k = 0 then (false, k, []) else ((eachR s m (k + (dec s k).2)).1, (eachR s m (k + (dec s k).2)).2.1, ((dec s k).1 : Int) :: (eachR s m (k + (dec s k).2)).2.2)) else (true, k, [])
def okR (s : List UInt8) : Bool := (eachR s FU 0).1
def atR (s : List UInt8) : Nat := (eachR s FU 0).2.1
def runesR (s : List UInt8) : List Int := (eachR s FU 0).2.2
def writs (l : List Int) : List DV := l.map fun r => .str (writ r)
def T84 (st : St) : Tr (Ex × St) :=
  bif shape 32 [0, 1, 9] st.slots then
    match gt .undef st.slots 0, gt .undef st.slots 1, gt .undef st.slots 9, st.heap with
    | .d (.str s), .func 60 [.ptr 0 0], .ptr 1 0, [.cells [.d (.int .i64 n)], .iter s' pos] =>
      .chk (decide (s' = s) && decide (pos ≤ s.length) && decide (s.length ≤ big) && decide (0 ≤ n) && decide (n ≤ pos)) (.cnd (eachR s FU pos).1
        (.ok (.exit 0, ⟨slots 32 [(0, .d (.str s))], [.cells [.d (.int .i64 (n + (eachR s FU pos).2.2.length))], .iter s (eachR s FU pos).2.1]⟩))
        (.ok (.pan (.iface 108 (.agg [.int .i64 (eachR s FU pos).2.1])), ⟨slots 0 [], [.cells [.d (.int .i64 (n + (eachR s FU pos).2.2.length))], .iter s ((eachR s FU pos).2.1 + 1)]⟩)))
    | .d (.str s), .func 54 [.ptr 0 0], .ptr 1 0, [.cells [.own 1 l], .iter s' pos] =>
      .chk (decide (s' = s) && decide (pos ≤ s.length) && decide (s.length + 1 ≤ big) && decide (l.length ≤ pos + 1)) (.cnd (eachR s FU pos).1
        (.ok (.exit 0, ⟨slots 32 [(0, .d (.str s))], [.cells [.own 1 (l ++ writs (eachR s FU pos).2.2)], .iter s (eachR s FU pos).2.1]⟩))
        (.ok (.pan (.iface 108 (.agg [.int .i64 (eachR s FU pos).2.1])), ⟨slots 0 [], [.cells [.own 1 (l ++ writs (eachR s FU pos).2.2)], .iter s ((eachR s FU pos).2.1 + 1)]⟩)))
    | _, _, _, _ => .no
  else .no
def L84 : Lps := fun i => bif Nat.beq i 1 then some (allBut 32 [0, 1, 9], allBut 32 [0], T84) else none
def S84 : List PV → List PObj → Tr (Out × List PObj)
  | [.d (.str s), .func 60 [.ptr 0 0]], [.cells [.d (.int .i64 n)]] =>
    .chk (decide (s.length ≤ big) && decide (n = 0)) (.cnd (okR s)
      (.ok (.ret (.tup []), [.cells [.d (.int .i64 (runesR s).length)]]))
      (.ok (.pan (.iface 108 (.agg [.int .i64 (atR s)])), [.cells [.d (.int .i64 (runesR s).length)]])))
  | [.d (.str s), .func 54 [.ptr 0 0]], [.cells [.own 1 l]] =>
    .chk (decide (s.length + 1 ≤ big) && decide (l.length ≤ 1)) (.cnd (okR s)
      (.ok (.ret (.tup []), [.cells [.own 1 (l ++ writs (runesR s))]]))
      (.ok (.pan (.iface 108 (.agg [.int .i64 (atR s)])), [.cells [.own 1 (l ++ writs (runesR s))]])))
  | _, _ => .no
def S83 : SD := fun md args H =>
  match md, args, H with
  | none, [.ptr 0 0], [.cells [.d (.bool b)]] => some (false, [.cells [.d (.bool b)]])
  | some (.iface 108 (.agg [.int .i64 _])), [.ptr 0 0], [.cells [.d (.bool _)]] => some (true, [.cells [.d (.bool false)]])
  | _, _, _ => none
def S53 : List PV → List PObj → Tr (Out × List PObj)
  | [.d (.str s), .func 60 [.ptr 0 0]], [.cells [.d (.int .i64 n)]] =>
    .chk (decide (s.length ≤ big) && decide (n = 0)) (.ok (.ret (.d (.bool (okR s))), [.cells [.d (.int .i64 (runesR s).length)]]))
  | [.d (.str s), .func 54 [.ptr 0 0]], [.cells [.own 1 l]] =>
    .chk (decide (s.length + 1 ≤ big) && decide (l.length ≤ 1)) (.ok (.ret (.d (.bool (okR s))), [.cells [.own 1 (l ++ writs (runesR s))]]))
  | _, _ => .no
/-- how many runes a text has; below 0: not all stand -/
def runesN (s : List UInt8) : Int := if okR s = true then ((runesR s).length : Int) else -1
def S28 : List PV → Tr PV
  | [.d (.str s)] => .chk (decide (s.length ≤ big)) (.ok (.d (.int .i64 (runesN s))))
  | _ => .no
/-- a text as it is written -/
def quoteR (s : List UInt8) : List UInt8 := 34 :: ((runesR s).map writ).flatten ++ [34]
def S23 : List PV → Tr PV
  | [.d (.str s)] => .chk (decide (s.length + 2 ≤ big)) (.cnd (okR s) (.ok (.tup [.d (.str (quoteR s)), .d (.int .i64 0)])) (.ok (.tup [.d (.str []), .d (.int .i64 2)])))
  | _ => .no
/-- is a value right -/
def rightR (k n : Int) (s : List UInt8) : Bool := (decide (k = 1) && decide (s = [])) || (decide (k = 2) && decide (n = 0) && decide (s.length ≤ 40) && okR s)
def S21 : List PV → Tr PV
  | [.d (.agg [.int .i64 k, .int .i64 n, .str s])] => .chk (decide (s.length ≤ big)) (.cnd (rightR k n s) (.ok (.d (.int .i64 0))) (.ok (.d (.int .i64 2))))
  | _ => .no
def S20 : List PV → Tr PV
  | [.d (.agg [.int .i64 k, .int .i64 n, .str s])] => .chk (decide (s.length ≤ big) && decide (-9223372036854775808 ≤ n) && decide (n ≤ 9223372036854775807)) (.cnd (rightR k n s)
      (.cnd (decide (k = 1)) (.ok (.tup [.d (.str (Lib.itoa n)), .d (.int .i64 0)])) (.ok (.tup [.d (.str (quoteR s)), .d (.int .i64 0)])))
      (.ok (.tup [.d (.str []), .d (.int .i64 2)])))
  | _ => .no
/-! strings.Join -/
def allStr : List DV → Bool
  | [] => true
  | .str _ :: l => allStr l
  | _ => false
def strsOf : List DV → List (List UInt8)
  | [] => []
  | .str s :: l => s :: strsOf l
  | _ :: l => strsOf l
def S56 : List PV → Tr PV
  | [.d (.slc 1 l), .d (.str p)] => .chk (allStr l && decide (l.length ≤ 140737488355328) && decide ((Lib.join (strsOf l) p).length ≤ 140737488355328)) (.ok (.d (.str (Lib.join (strsOf l) p))))
  | _ => .no
end Go.PS
end

section
namespace Go.PS
open Go.Proofs
set_option maxRecDepth 100000
/-! fasti value.Runes 1 -/
theorem fn60 : FnOk Tryd.prog 60 7 [] (body Tryd.f60) := ⟨Tryd.f60, Tryd.func60, bodySome _ (by kernel_rfl), by kernel_rfl, by kernel_rfl, by kernel_rfl, by kernel_rfl⟩
theorem run60 (F : Nat) (a r n : Int) : runE (ctx F []) noL 7 [] (body Tryd.f60) [.d (.int .i64 a), .d (.int .i32 r), .ptr 0 0] [.cells [.d (.int .i64 n)]] =
    Tr.val
      (.ok ((Out.ret (PV.tup []), [PObj.cells [PV.d (DV.int IntKind.i64 (IntKind.i64.wrap (n + 1)))]]))) := by kernel_rfl
/-! fasti value.written -/
theorem fn55 : FnOk Tryd.prog 55 35 [.tmp 2] (body Tryd.f55) := ⟨Tryd.f55, Tryd.func55, bodySome _ (by kernel_rfl), by kernel_rfl, by kernel_rfl, by kernel_rfl, by kernel_rfl⟩
theorem run55 (F : Nat) (r : Int) : runP (ctx F []) noL 35 [.tmp 2] (body Tryd.f55) [.d (.int .i32 r)] =
    Tr.val
      (.cnd (decide (r = 34))
        (.chk (decide (([92] : List UInt8).length + (Utf8.encode r).data.toList.length ≤ 9223372036854775807))
        (.ok (PV.d (DV.str (([92] : List UInt8) ++ (Utf8.encode r).data.toList)))))
        (.cnd (decide (r = 92))
          (.chk (decide (([92] : List UInt8).length + (Utf8.encode r).data.toList.length ≤ 9223372036854775807))
          (.ok (PV.d (DV.str (([92] : List UInt8) ++ (Utf8.encode r).data.toList)))))
          (.cnd (decide (r = 10))
            (.ok (PV.d (DV.str ([92, 110] : List UInt8))))
            (.cnd (decide (r < 32))
              (.chk (decide (0 ≤ r.fdiv (2 ^ min (Int.toNat 4) IntKind.i32.bits)))
              (.chk (decide
        ((r.fdiv (2 ^ min (Int.toNat 4) IntKind.i32.bits)).toNat <
          ([48, 49, 50, 51, 52, 53, 54, 55, 56, 57, 97, 98, 99, 100, 101, 102] : List UInt8).length))
              (.chk (decide
        (([92, 120] : List UInt8).length +
            (Utf8.encode
                    (↑(([48, 49, 50, 51, 52, 53, 54, 55, 56, 57, 97, 98, 99, 100, 101, 102] : List UInt8).getD
                            (r.fdiv (2 ^ min (Int.toNat 4) IntKind.i32.bits)).toNat 0).toNat :
                      Int)).data.toList.length ≤
          9223372036854775807))
              (.chk (decide (0 ≤ IntKind.i32.wrap (↑(BitVec.ofInt IntKind.i32.bits r &&& BitVec.ofInt IntKind.i32.bits 15).toNat : Int)))
              (.chk (decide
        ((IntKind.i32.wrap (↑(BitVec.ofInt IntKind.i32.bits r &&& BitVec.ofInt IntKind.i32.bits 15).toNat : Int)).toNat <
          ([48, 49, 50, 51, 52, 53, 54, 55, 56, 57, 97, 98, 99, 100, 101, 102] : List UInt8).length))
              (.chk (decide
        ((([92, 120] : List UInt8) ++
                (Utf8.encode
                      (↑(([48, 49, 50, 51, 52, 53, 54, 55, 56, 57, 97, 98, 99, 100, 101, 102] : List UInt8).getD
                              (r.fdiv (2 ^ min (Int.toNat 4) IntKind.i32.bits)).toNat 0).toNat :
                        Int)).data.toList).length +
            (Utf8.encode
                    (↑(([48, 49, 50, 51, 52, 53, 54, 55, 56, 57, 97, 98, 99, 100, 101, 102] : List UInt8).getD
                            (IntKind.i32.wrap
                                (↑(BitVec.ofInt IntKind.i32.bits r &&& BitVec.ofInt IntKind.i32.bits 15).toNat : Int)).toNat
                            0).toNat :
                      Int)).data.toList.length ≤
          9223372036854775807))
              (.ok (PV.d
        (DV.str
          (([92, 120] : List UInt8) ++
              (Utf8.encode
                    (↑(([48, 49, 50, 51, 52, 53, 54, 55, 56, 57, 97, 98, 99, 100, 101, 102] : List UInt8).getD
                            (r.fdiv (2 ^ min (Int.toNat 4) IntKind.i32.bits)).toNat 0).toNat :
                      Int)).data.toList ++
            (Utf8.encode
                  (↑(([48, 49, 50, 51, 52, 53, 54, 55, 56, 57, 97, 98, 99, 100, 101, 102] : List UInt8).getD
                          (IntKind.i32.wrap
                              (↑(BitVec.ofInt IntKind.i32.bits r &&& BitVec.ofInt IntKind.i32.bits 15).toNat : Int)).toNat
                          0).toNat :
                    Int)).data.toList))))))))))
              (.cnd (decide (r = 127))
                (.chk (decide (0 ≤ r.fdiv (2 ^ min (Int.toNat 4) IntKind.i32.bits)))
                (.chk (decide
        ((r.fdiv (2 ^ min (Int.toNat 4) IntKind.i32.bits)).toNat <
          ([48, 49, 50, 51, 52, 53, 54, 55, 56, 57, 97, 98, 99, 100, 101, 102] : List UInt8).length))
                (.chk (decide
        (([92, 120] : List UInt8).length +
            (Utf8.encode
                    (↑(([48, 49, 50, 51, 52, 53, 54, 55, 56, 57, 97, 98, 99, 100, 101, 102] : List UInt8).getD
                            (r.fdiv (2 ^ min (Int.toNat 4) IntKind.i32.bits)).toNat 0).toNat :
                      Int)).data.toList.length ≤
          9223372036854775807))
                (.chk (decide (0 ≤ IntKind.i32.wrap (↑(BitVec.ofInt IntKind.i32.bits r &&& BitVec.ofInt IntKind.i32.bits 15).toNat : Int)))
                (.chk (decide
        ((IntKind.i32.wrap (↑(BitVec.ofInt IntKind.i32.bits r &&& BitVec.ofInt IntKind.i32.bits 15).toNat : Int)).toNat <
          ([48, 49, 50, 51, 52, 53, 54, 55, 56, 57, 97, 98, 99, 100, 101, 102] : List UInt8).length))
                (.chk (decide
        ((([92, 120] : List UInt8) ++
                (Utf8.encode
                      (↑(([48, 49, 50, 51, 52, 53, 54, 55, 56, 57, 97, 98, 99, 100, 101, 102] : List UInt8).getD
                              (r.fdiv (2 ^ min (Int.toNat 4) IntKind.i32.bits)).toNat 0).toNat :
                        Int)).data.toList).length +
            (Utf8.encode
                    (↑(([48, 49, 50, 51, 52, 53, 54, 55, 56, 57, 97, 98, 99, 100, 101, 102] : List UInt8).getD
                            (IntKind.i32.wrap
                                (↑(BitVec.ofInt IntKind.i32.bits r &&& BitVec.ofInt IntKind.i32.bits 15).toNat : Int)).toNat
                            0).toNat :
                      Int)).data.toList.length ≤
          9223372036854775807))
                (.ok (PV.d
        (DV.str
          (([92, 120] : List UInt8) ++
              (Utf8.encode
                    (↑(([48, 49, 50, 51, 52, 53, 54, 55, 56, 57, 97, 98, 99, 100, 101, 102] : List UInt8).getD
                            (r.fdiv (2 ^ min (Int.toNat 4) IntKind.i32.bits)).toNat 0).toNat :
                      Int)).data.toList ++
            (Utf8.encode
                  (↑(([48, 49, 50, 51, 52, 53, 54, 55, 56, 57, 97, 98, 99, 100, 101, 102] : List UInt8).getD
                          (IntKind.i32.wrap
                              (↑(BitVec.ofInt IntKind.i32.bits r &&& BitVec.ofInt IntKind.i32.bits 15).toNat : Int)).toNat
                          0).toNat :
                    Int)).data.toList))))))))))
                (.ok (PV.d (DV.str (Utf8.encode r).data.toList)))))))) := by kernel_rfl
/-! fasti value.Quote 1 -/
theorem fn54 : FnOk Tryd.prog 54 10 [] (body Tryd.f54) := ⟨Tryd.f54, Tryd.func54, bodySome _ (by kernel_rfl), by kernel_rfl, by kernel_rfl, by kernel_rfl, by kernel_rfl⟩
theorem run54 (F : Nat) (a r : Int) (l : List DV) : runE (ctx F [(55, .pure S55)]) noL 10 [] (body Tryd.f54) [.d (.int .i64 a), .d (.int .i32 r), .ptr 0 0] [.cells [.own 1 l]] =
    Tr.val
      (.chk (decide (0 ≤ r))
      (.chk (limit 16
        (l.length + (fillS (rep 1 (zeroDV ((ctx F [(55, EK.pure S55)]).ty 9))) [(0, DV.str (writ r))]).length))
      (.ok ((Out.ret (PV.tup []), [PObj.cells [PV.own 1 (l ++ [DV.str (writ r)])]]))))) := by kernel_rfl
/-! fasti value.through 1 -/
theorem rc83 : RcOk Tryd.prog 83 10 2 1 (body Tryd.f83) := ⟨⟨Tryd.f83, Tryd.func83, bodySome _ (by kernel_rfl), by kernel_rfl, by kernel_rfl, by kernel_rfl⟩, by kernel_rfl, by kernel_rfl, by kernel_rfl, by kernel_rfl, by kernel_rfl, by kernel_rfl, by kernel_rfl, of_decide_eq_true (by kernel_rfl)⟩
theorem run83 (F : Nat) (b : Bool) : runR (ctx F []) noL 10 2 1 (tlS (body Tryd.f83)) none [.ptr 0 0] [.cells [.d (.bool b)]] =
    Tr.val
      (.ok ((false, [PObj.cells [PV.d (DV.bool b)]]))) := by kernel_rfl
theorem run83_2 (F : Nat) (b : Bool) (n : Int) : runR (ctx F []) noL 10 2 1 (tlS (body Tryd.f83)) (some (.iface 108 (.agg [.int .i64 n]))) [.ptr 0 0] [.cells [.d (.bool b)]] =
    Tr.val
      (.ok (((some (DV.iface 108 (DV.agg [DV.int IntKind.i64 n]))).isSome, [PObj.cells [PV.d (DV.bool false)]]))) := by kernel_rfl
theorem round84_0a (F : Nat) {R : Type} (s : List UInt8) (pos : Nat) (n : Int) (K : Ex → St → Option R) (G : St → Option R) : roundK (pcodeK (ctx F [(54, .eff (frameT S54)), (60, .eff (frameT S60)), (75, .pure S75)]) noL (lp Tryd.f84 0)) 2 (allBut 32 [0, 1, 9] ++ temps (lp Tryd.f84 0)) (allBut 32 [0]) ⟨slots 32 [(0, .d (.str s)), (1, .func 60 [.ptr 0 0]), (9, .ptr 1 0)], [.cells [.d (.int .i64 n)], .iter s pos]⟩ K G =
    Tr.run
      (.cnd (decide (pos < s.length))
        (.cnd (decide ((↑(Utf8.decode { data := s.toArray } pos).fst : Int) = 65533))
          (.chk (decide ((↑pos : Int) ≤ (↑s.length : Int)))
          (.chk (decide ((↑s.length : Int) ≤ (↑s.length : Int)))
          (.cnd (decide (runeN (List.drop (↑pos : Int).toNat (List.take (↑s.length : Int).toNat s)) < 2))
            (.ok (.inl (Ex.pan (DV.iface 108 (DV.agg [DV.int IntKind.i64 (↑pos : Int)])), ⟨slots 0 [], [PObj.cells [PV.d (DV.int IntKind.i64 n)], PObj.iter s (pos + (Utf8.decode { data := s.toArray } pos).snd)]⟩)))
            (.chk (decide (0 ≤ n) && decide (n ≤ (↑big : Int)))
            (.ok (.inr ⟨slots 32 [(0, PV.d (DV.str s)), (1, PV.func 60 [PV.ptr 0 0]), (9, PV.ptr 1 0)], [PObj.cells [PV.d (DV.int IntKind.i64 (n + 1))], PObj.iter s (pos + (Utf8.decode { data := s.toArray } pos).snd)]⟩))))))
          (.chk (decide (0 ≤ n) && decide (n ≤ (↑big : Int)))
          (.ok (.inr ⟨slots 32 [(0, PV.d (DV.str s)), (1, PV.func 60 [PV.ptr 0 0]), (9, PV.ptr 1 0)], [PObj.cells [PV.d (DV.int IntKind.i64 (n + 1))], PObj.iter s (pos + (Utf8.decode { data := s.toArray } pos).snd)]⟩))))
        (.ok (.inl (Ex.exit 0, ⟨slots 32 [(0, PV.d (DV.str s))], [PObj.cells [PV.d (DV.int IntKind.i64 n)], PObj.iter s pos]⟩)))) (rnd K G) := by kernel_rfl
theorem round84_0b (F : Nat) {R : Type} (s : List UInt8) (pos : Nat) (l : List DV) (K : Ex → St → Option R) (G : St → Option R) : roundK (pcodeK (ctx F [(54, .eff (frameT S54)), (60, .eff (frameT S60)), (75, .pure S75)]) noL (lp Tryd.f84 0)) 2 (allBut 32 [0, 1, 9] ++ temps (lp Tryd.f84 0)) (allBut 32 [0]) ⟨slots 32 [(0, .d (.str s)), (1, .func 54 [.ptr 0 0]), (9, .ptr 1 0)], [.cells [.own 1 l], .iter s pos]⟩ K G =
    Tr.run
      (.cnd (decide (pos < s.length))
        (.cnd (decide ((↑(Utf8.decode { data := s.toArray } pos).fst : Int) = 65533))
          (.chk (decide ((↑pos : Int) ≤ (↑s.length : Int)))
          (.chk (decide ((↑s.length : Int) ≤ (↑s.length : Int)))
          (.cnd (decide (runeN (List.drop (↑pos : Int).toNat (List.take (↑s.length : Int).toNat s)) < 2))
            (.ok (.inl (Ex.pan (DV.iface 108 (DV.agg [DV.int IntKind.i64 (↑pos : Int)])), ⟨slots 0 [], [PObj.cells [PV.own 1 l], PObj.iter s (pos + (Utf8.decode { data := s.toArray } pos).snd)]⟩)))
            (.chk (decide (0 ≤ (↑(Utf8.decode { data := s.toArray } pos).fst : Int)) && decide (l.length ≤ big))
            (.ok (.inr ⟨slots 32 [(0, PV.d (DV.str s)), (1, PV.func 54 [PV.ptr 0 0]), (9, PV.ptr 1 0)], [PObj.cells [PV.own 1 (l ++ [DV.str (writ (↑(Utf8.decode { data := s.toArray } pos).fst : Int))])],
        PObj.iter s (pos + (Utf8.decode { data := s.toArray } pos).snd)]⟩))))))
          (.chk (decide (0 ≤ (↑(Utf8.decode { data := s.toArray } pos).fst : Int)) && decide (l.length ≤ big))
          (.ok (.inr ⟨slots 32 [(0, PV.d (DV.str s)), (1, PV.func 54 [PV.ptr 0 0]), (9, PV.ptr 1 0)], [PObj.cells [PV.own 1 (l ++ [DV.str (writ (↑(Utf8.decode { data := s.toArray } pos).fst : Int))])],
        PObj.iter s (pos + (Utf8.decode { data := s.toArray } pos).snd)]⟩))))
        (.ok (.inl (Ex.exit 0, ⟨slots 32 [(0, PV.d (DV.str s))], [PObj.cells [PV.own 1 l], PObj.iter s pos]⟩)))) (rnd K G) := by kernel_rfl
/-! fasti value.each -/
theorem fn84 : FnOk Tryd.prog 84 32 [] (body Tryd.f84) := ⟨Tryd.f84, Tryd.func84, bodySome _ (by kernel_rfl), by kernel_rfl, by kernel_rfl, by kernel_rfl, by kernel_rfl⟩
theorem run84 (F : Nat) (s : List UInt8) (n : Int) : runE (ctx F [(54, .eff (frameT S54)), (60, .eff (frameT S60)), (75, .pure S75)]) L84 32 [] (body Tryd.f84) [.d (.str s), .func 60 [.ptr 0 0]] [.cells [.d (.int .i64 n)]] =
    Tr.val
      (.chk (decide (s = s) && decide (0 ≤ s.length) && decide (s.length ≤ big) && decide (0 ≤ n) && decide (n ≤ (↑0 : Int)))
      (.cnd ((eachR s FU 0).fst)
        (.ok ((Out.ret (PV.tup []), [PObj.cells [PV.d (DV.int IntKind.i64 (n + (↑(eachR s FU 0).snd.snd.length : Int)))]])))
        (.ok ((Out.pan (DV.iface 108 (DV.agg [DV.int IntKind.i64 (↑(eachR s FU 0).snd.fst : Int)])),
        [PObj.cells [PV.d (DV.int IntKind.i64 (n + (↑(eachR s FU 0).snd.snd.length : Int)))]]))))) := by kernel_rfl
theorem run84_2 (F : Nat) (s : List UInt8) (l : List DV) : runE (ctx F [(54, .eff (frameT S54)), (60, .eff (frameT S60)), (75, .pure S75)]) L84 32 [] (body Tryd.f84) [.d (.str s), .func 54 [.ptr 0 0]] [.cells [.own 1 l]] =
    Tr.val
      (.chk (decide (s = s) && decide (0 ≤ s.length) && decide (s.length + 1 ≤ big) && decide (l.length ≤ 0 + 1))
      (.cnd ((eachR s FU 0).fst)
        (.ok ((Out.ret (PV.tup []), [PObj.cells [PV.own 1 (l ++ writs (eachR s FU 0).snd.snd)]])))
        (.ok ((Out.pan (DV.iface 108 (DV.agg [DV.int IntKind.i64 (↑(eachR s FU 0).snd.fst : Int)])),
        [PObj.cells [PV.own 1 (l ++ writs (eachR s FU 0).snd.snd)]]))))) := by kernel_rfl
/-! fasti value.through -/
theorem fn53 : FnOk Tryd.prog 53 9 [.cell 4 4] (body Tryd.f53) := ⟨Tryd.f53, Tryd.func53, bodySome _ (by kernel_rfl), by kernel_rfl, by kernel_rfl, by kernel_rfl, by kernel_rfl⟩
theorem df53 : DfOk (body Tryd.f53) 1 5 := ⟨by kernel_rfl, by kernel_rfl, by kernel_rfl, by kernel_rfl, by kernel_rfl⟩
theorem run53 (F : Nat) (s : List UInt8) (n : Int) : runDE (ctx F [(84, .eff (frameT S84))]) noL 9 [.cell 4 4] (headsC 1 (body Tryd.f53)) (opAt (hdS (dropC 1 (body Tryd.f53))) 0) 5 83 (tlS (dropC 1 (body Tryd.f53))) (frameD S83) [.d (.str s), .func 60 [.ptr 0 0]] [.cells [.d (.int .i64 n)]] =
    Tr.val
      (.chk (decide (s.length ≤ big) && decide (n = 0))
      (.cnd (okR s)
        (.ok ((Out.ret (PV.d (DV.bool true)), [PObj.cells [PV.d (DV.int IntKind.i64 (↑(runesR s).length : Int))]])))
        (.ok ((Out.ret (PV.d (DV.bool false)), [PObj.cells [PV.d (DV.int IntKind.i64 (↑(runesR s).length : Int))]]))))) := by kernel_rfl
theorem run53_2 (F : Nat) (s : List UInt8) (l : List DV) : runDE (ctx F [(84, .eff (frameT S84))]) noL 9 [.cell 4 4] (headsC 1 (body Tryd.f53)) (opAt (hdS (dropC 1 (body Tryd.f53))) 0) 5 83 (tlS (dropC 1 (body Tryd.f53))) (frameD S83) [.d (.str s), .func 54 [.ptr 0 0]] [.cells [.own 1 l]] =
    Tr.val
      (.chk (decide (s.length + 1 ≤ big) && decide (l.length ≤ 1))
      (.cnd (okR s)
        (.ok ((Out.ret (PV.d (DV.bool true)), [PObj.cells [PV.own 1 (l ++ writs (runesR s))]])))
        (.ok ((Out.ret (PV.d (DV.bool false)), [PObj.cells [PV.own 1 (l ++ writs (runesR s))]]))))) := by kernel_rfl
/-! fasti value.Runes -/
theorem fn28 : FnOk Tryd.prog 28 9 [.tmp 2] (body Tryd.f28) := ⟨Tryd.f28, Tryd.func28, bodySome _ (by kernel_rfl), by kernel_rfl, by kernel_rfl, by kernel_rfl, by kernel_rfl⟩
theorem run28 (F : Nat) (s : List UInt8) : runP (ctx F [(53, .eff (frameT S53))]) noL 9 [.tmp 2] (body Tryd.f28) [.d (.str s)] =
    Tr.val
      (.chk (decide (s.length ≤ big) && decide (0 = 0))
      (.cnd (!okR s)
        (.ok (PV.d (DV.int IntKind.i64 (Int.negSucc 0))))
        (.ok (PV.d (DV.int IntKind.i64 (↑(runesR s).length : Int)))))) := by kernel_rfl
/-! fasti value.Quote -/
theorem fn23 : FnOk Tryd.prog 23 14 [.tmp 2, .tmp 3] (body Tryd.f23) := ⟨Tryd.f23, Tryd.func23, bodySome _ (by kernel_rfl), by kernel_rfl, by kernel_rfl, by kernel_rfl, by kernel_rfl⟩
theorem run23 (F : Nat) (s : List UInt8) : runP (ctx F [(53, .eff (frameT S53)), (56, .pure S56)]) noL 14 [.tmp 2, .tmp 3] (body Tryd.f23) [.d (.str s)] =
    Tr.val
      (.chk (decide (s.length + 1 ≤ big) &&
        decide
          ((fillS (rep 1 (zeroDV ((ctx F [(53, EK.eff (frameT S53)), (56, EK.pure S56)]).ty 9)))
                [(0, DV.str ([34] : List UInt8))]).length ≤
            1))
      (.cnd (!okR s)
        (.ok (PV.tup [PV.d (DV.str ([] : List UInt8)), PV.d (DV.int IntKind.i64 (2))]))
        (.chk (limit 16
        ((fillS (rep 1 (zeroDV ((ctx F [(53, EK.eff (frameT S53)), (56, EK.pure S56)]).ty 9)))
                [(0, DV.str ([34] : List UInt8))] ++
              writs (runesR s)).length +
          (fillS (rep 1 (zeroDV ((ctx F [(53, EK.eff (frameT S53)), (56, EK.pure S56)]).ty 9)))
              [(0, DV.str ([34] : List UInt8))]).length))
        (.chk (allStr
            (fillS (rep 1 (zeroDV ((ctx F [(53, EK.eff (frameT S53)), (56, EK.pure S56)]).ty 9)))
                  [(0, DV.str ([34] : List UInt8))] ++
                writs (runesR s) ++
              fillS (rep 1 (zeroDV ((ctx F [(53, EK.eff (frameT S53)), (56, EK.pure S56)]).ty 9)))
                [(0, DV.str ([34] : List UInt8))]) &&
          decide
            ((fillS (rep 1 (zeroDV ((ctx F [(53, EK.eff (frameT S53)), (56, EK.pure S56)]).ty 9)))
                      [(0, DV.str ([34] : List UInt8))] ++
                    writs (runesR s) ++
                  fillS (rep 1 (zeroDV ((ctx F [(53, EK.eff (frameT S53)), (56, EK.pure S56)]).ty 9)))
                    [(0, DV.str ([34] : List UInt8))]).length ≤
              140737488355328) &&
        decide
          ((Lib.join
                (strsOf
                  (fillS (rep 1 (zeroDV ((ctx F [(53, EK.eff (frameT S53)), (56, EK.pure S56)]).ty 9)))
                        [(0, DV.str ([34] : List UInt8))] ++
                      writs (runesR s) ++
                    fillS (rep 1 (zeroDV ((ctx F [(53, EK.eff (frameT S53)), (56, EK.pure S56)]).ty 9)))
                      [(0, DV.str ([34] : List UInt8))]))
                ([] : List UInt8)).length ≤
            140737488355328))
        (.ok (PV.tup
        [PV.d
            (DV.str
              (Lib.join
                (strsOf
                  (fillS (rep 1 (zeroDV ((ctx F [(53, EK.eff (frameT S53)), (56, EK.pure S56)]).ty 9)))
                        [(0, DV.str ([34] : List UInt8))] ++
                      writs (runesR s) ++
                    fillS (rep 1 (zeroDV ((ctx F [(53, EK.eff (frameT S53)), (56, EK.pure S56)]).ty 9)))
                      [(0, DV.str ([34] : List UInt8))]))
                ([] : List UInt8))),
          PV.d (DV.int IntKind.i64 (0))])))))) := by kernel_rfl
/-! fasti value.Check -/
theorem fn21x : FnOk Tryd.prog 21 27 [.tmp 2] (body Tryd.f21) := ⟨Tryd.f21, Tryd.func21, bodySome _ (by kernel_rfl), by kernel_rfl, by kernel_rfl, by kernel_rfl, by kernel_rfl⟩
theorem run21x (F : Nat) (k n : Int) (s : List UInt8) : runP (ctx F [(28, .pure S28)]) noL 27 [.tmp 2] (body Tryd.f21) [.d (.agg [.int .i64 k, .int .i64 n, .str s])] =
    Tr.val
      (.cnd (decide (k = 1))
        (.cnd (decide (s = ([] : List UInt8)))
          (.ok (PV.d (DV.int IntKind.i64 (0))))
          (.ok (PV.d (DV.int IntKind.i64 (2)))))
        (.cnd (decide (k = 2))
          (.cnd (decide (n = 0))
            (.cnd (decide ((↑s.length : Int) ≤ 40))
              (.chk (decide (s.length ≤ big))
              (.cnd (decide (runesN s ≥ 0))
                (.ok (PV.d (DV.int IntKind.i64 (0))))
                (.ok (PV.d (DV.int IntKind.i64 (2))))))
              (.ok (PV.d (DV.int IntKind.i64 (2)))))
            (.ok (PV.d (DV.int IntKind.i64 (2)))))
          (.ok (PV.d (DV.int IntKind.i64 (2)))))) := by kernel_rfl
/-! fasti value.Text -/
theorem fn20x : FnOk Tryd.prog 20 21 [.tmp 2, .tmp 3] (body Tryd.f20) := ⟨Tryd.f20, Tryd.func20, bodySome _ (by kernel_rfl), by kernel_rfl, by kernel_rfl, by kernel_rfl, by kernel_rfl⟩
theorem run20x (F : Nat) (k n : Int) (s : List UInt8) : runP (ctx F [(21, .pure S21), (23, .pure S23), (49, .pure S49)]) noL 21 [.tmp 2, .tmp 3] (body Tryd.f20) [.d (.agg [.int .i64 k, .int .i64 n, .str s])] =
    Tr.val
      (.chk (decide (s.length ≤ big))
      (.cnd (rightR k n s)
        (.cnd (decide (k = 1))
          (.chk (decide (-9223372036854775808 ≤ n) && decide (n ≤ 9223372036854775807))
          (.ok (PV.tup [PV.d (DV.str (Lib.itoa n)), PV.d (DV.int IntKind.i64 (0))])))
          (.chk (decide (s.length + 2 ≤ big))
          (.cnd (okR s)
            (.ok (PV.tup [PV.d (DV.str (quoteR s)), PV.d (DV.int IntKind.i64 (0))]))
            (.ok (PV.tup [PV.d (DV.str []), PV.d (DV.int IntKind.i64 (2))])))))
        (.ok (PV.tup [PV.d (DV.str ([] : List UInt8)), PV.d (DV.int IntKind.i64 (2))])))) := by kernel_rfl
end Go.PS
end

section
namespace Go.PS
open Go.Proofs
theorem eachR_le (s : List UInt8) : ∀ (m k : Nat), k ≤ s.length → (eachR s m k).2.2.length ≤ s.length - k ∧ (eachR s m k).2.1 ≤ s.length := by
  intro m
  induction m with
  | zero => intro k h; simp only [eachR]; simp; omega
  | succ m ih =>
    intro k h
    simp only [eachR]
    by_cases hk : k < s.length
    · simp only [if_pos hk]
      by_cases hw : width s k = 0
      · simp only [if_pos hw]; simp; omega
      · simp only [if_neg hw]
        rcases dec_cases s k hk with ⟨_, hd, _⟩ | ⟨_, _, hw'⟩ | ⟨_, _, h3, h4, _⟩
        · have e1 : (dec s k).2 = 1 := by rw [hd]
          have := ih (k + (dec s k).2) (by omega)
          simp only [List.length_cons]
          omega
        · exact absurd hw' hw
        · have := ih (k + (dec s k).2) (by omega)
          simp only [List.length_cons]
          omega
    · simp only [if_neg hk]; simp; omega

theorem enc_len (r : Int) : (enc r).length ≤ 4 := by
  unfold enc Utf8.encode
  dsimp only
  repeat' split
  all_goals simp [Utf8.runeError]
  all_goals (repeat' split) <;> simp
set_option maxRecDepth 100000 in
theorem lowRune : ∀ n : Fin 128, (n.val < 32 ∨ n.val = 127) →
    (0 ≤ (n.val : Int).fdiv (2 ^ min (Int.toNat 4) IntKind.i32.bits)) ∧ ((n.val : Int).fdiv (2 ^ min (Int.toNat 4) IntKind.i32.bits)).toNat < 16 ∧
    0 ≤ IntKind.i32.wrap (↑(BitVec.ofInt IntKind.i32.bits (n.val : Int) &&& BitVec.ofInt IntKind.i32.bits 15).toNat : Int) ∧
    (IntKind.i32.wrap (↑(BitVec.ofInt IntKind.i32.bits (n.val : Int) &&& BitVec.ofInt IntKind.i32.bits 15).toNat : Int)).toNat < 16 ∧
    (Utf8.encode (↑(([48, 49, 50, 51, 52, 53, 54, 55, 56, 57, 97, 98, 99, 100, 101, 102] : List UInt8).getD ((n.val : Int).fdiv (2 ^ min (Int.toNat 4) IntKind.i32.bits)).toNat 0).toNat : Int)).data.toList = [hexDig ((n.val : Int) / 16)] ∧
    (Utf8.encode (↑(([48, 49, 50, 51, 52, 53, 54, 55, 56, 57, 97, 98, 99, 100, 101, 102] : List UInt8).getD (IntKind.i32.wrap (↑(BitVec.ofInt IntKind.i32.bits (n.val : Int) &&& BitVec.ofInt IntKind.i32.bits 15).toNat : Int)).toNat 0).toNat : Int)).data.toList = [hexDig ((n.val : Int) % 16)] := by decide

theorem ok60 (W0 : World) : EKOk Tryd.prog W0 60 (.eff (frameT S60)) := by
  refine eff_of (tyOk 0 []) (look_ok all_nil) mixed fn60 (lpsOk_no _ _) fun args H r h => ?_
  unfold S60 at h
  split at h
  · rename_i a r0 n
    refine (run60 0 a r0 n).trans ?_
    rw [← h]
    simp only [Tr.val_chk, chk_some, Bool.and_eq_true, decide_eq_true_eq] at h
    obtain ⟨⟨h0, h1⟩, _⟩ := h
    unfold big at h1
    have w : IntKind.i64.wrap (n + 1) = n + 1 := wrap64 (by omega) (by omega)
    simp only [Tr.val_ok, Tr.val_chk, w]
    rw [chk_t (by unfold big; simp only [Bool.and_eq_true, decide_eq_true_eq]; omega)]
  · simp [Tr.val_no] at h
theorem ok55 (W0 : World) : EKOk Tryd.prog W0 55 (.pure S55) := by
  refine pure_of (tyOk 0 []) (look_ok all_nil) mixed fn55 (lpsOk_no _ _) fun args r h => ?_
  unfold S55 at h
  split at h
  · rename_i r0
    refine (run55 0 r0).trans ?_
    rw [← h]
    simp only [Tr.val_chk, chk_some, decide_eq_true_eq] at h
    obtain ⟨h0, _⟩ := h
    have he := enc_len r0
    unfold enc at he
    simp only [Tr.val_ok, Tr.val_cnd, Tr.val_chk]
    rw [chk_p h0]
    have hl1 : ([92] : List UInt8).length + (Utf8.encode r0).data.toList.length ≤ 9223372036854775807 := by rw [List.length_singleton]; omega
    simp only [chk_p hl1]
    unfold writ enc
    by_cases c1 : r0 = 34
    · rw [cnd_p c1, if_pos (Or.inl c1)]; rfl
    · rw [cnd_n c1]
      by_cases c2 : r0 = 92
      · rw [cnd_p c2, if_pos (Or.inr c2)]; rfl
      · rw [cnd_n c2, if_neg (by omega)]
        by_cases c3 : r0 = 10
        · rw [cnd_p c3, if_pos c3]
        · rw [cnd_n c3, if_neg c3]
          by_cases g : r0 < 32 ∨ r0 = 127
          · rw [if_pos g]
            obtain ⟨n, rfl⟩ := Int.eq_ofNat_of_zero_le h0
            obtain ⟨f1, f2, f3, f4, f5, f6⟩ := lowRune ⟨n, by omega⟩ (by show n < 32 ∨ n = 127; omega)
            dsimp only at f1 f2 f3 f4 f5 f6
            have e1 : ∀ x : UInt8, ([92, 120] : List UInt8).length + [x].length ≤ 9223372036854775807 := fun x => by simp
            have e2 : ∀ x y : UInt8, (([92, 120] : List UInt8) ++ [x]).length + [y].length ≤ 9223372036854775807 := fun x y => by simp
            have l16 : ([48, 49, 50, 51, 52, 53, 54, 55, 56, 57, 97, 98, 99, 100, 101, 102] : List UInt8).length = 16 := rfl
            simp only [f5, f6, l16]
            by_cases c4 : (n : Int) < 32
            · rw [cnd_p c4, chk_p f1, chk_p f2, chk_p (e1 _), chk_p f3, chk_p f4, chk_p (e2 _ _)]; rfl
            · rw [cnd_n c4, cnd_p (by omega), chk_p f1, chk_p f2, chk_p (e1 _), chk_p f3, chk_p f4, chk_p (e2 _ _)]; rfl
          · rw [if_neg g, cnd_n (by omega), cnd_n (by omega)]
  · simp [Tr.val_no] at h
theorem ok54 (W0 : World) : EKOk Tryd.prog W0 54 (.eff (frameT S54)) := by
  refine eff_of (tyOk 0 [(55, .pure S55)]) (look_ok (all_cons (ok55 W0) all_nil)) mixed fn54 (lpsOk_no _ _) fun args H r h => ?_
  unfold S54 at h
  split at h
  · rename_i a r0 l
    refine (run54 0 a r0 l).trans ?_
    rw [← h]
    simp only [Tr.val_chk, chk_some, Bool.and_eq_true, decide_eq_true_eq] at h
    obtain ⟨⟨h0, h1⟩, _⟩ := h
    unfold big at h1
    have hlim : ∀ k : Nat, k = 1 → limit 16 (l.length + k) = true := by rintro k rfl; unfold limit; rw [decide_eq_true_eq]; omega
    simp only [Tr.val_ok, Tr.val_chk]
    rw [chk_p h0, chk_t (by exact hlim _ rfl), chk_t (by unfold big; simp only [Bool.and_eq_true, decide_eq_true_eq]; omega)]
  · simp [Tr.val_no] at h
end Go.PS
end

section
namespace Go.PS
open Go.Proofs
theorem writs_cons (r : Int) (l : List Int) : writs (r :: l) = .str (writ r) :: writs l := rfl

theorem loop84a (F : Nat) {R : Type} (s : List UInt8) (K : Ex → St → Option R) (hs : s.length ≤ 1000000) :
    ∀ (m k : Nat) (n : Int), k ≤ s.length → 0 ≤ n → n ≤ k → s.length - k < m →
      loopK (pcodeK (ctx F [(54, .eff (frameT S54)), (60, .eff (frameT S60)), (75, .pure S75)]) noL (lp Tryd.f84 0)) 2 (allBut 32 [0, 1, 9] ++ temps (lp Tryd.f84 0)) (allBut 32 [0]) m
        ⟨slots 32 [(0, .d (.str s)), (1, .func 60 [.ptr 0 0]), (9, .ptr 1 0)], [.cells [.d (.int .i64 n)], .iter s k]⟩ K =
      PS.cnd (eachR s m k).1
        (K (.exit 0) ⟨slots 32 [(0, .d (.str s))], [.cells [.d (.int .i64 (n + (eachR s m k).2.2.length))], .iter s (eachR s m k).2.1]⟩)
        (K (.pan (.iface 108 (.agg [.int .i64 (eachR s m k).2.1]))) ⟨slots 0 [], [.cells [.d (.int .i64 (n + (eachR s m k).2.2.length))], .iter s ((eachR s m k).2.1 + 1)]⟩) := by
  intro m
  induction m with
  | zero => intro k n _ _ _ hm; omega
  | succ m ih =>
    intro k n hk h0 h1 hm
    rw [loopK_succ, round84_0a]
    simp only [Tr.run, rnd, udec]
    by_cases hlt : k < s.length
    · have e0 : List.drop (k : Int).toNat (List.take ((s.length : Nat) : Int).toNat s) = s.drop k := by simp
      have hc : (decide (0 ≤ n) && decide (n ≤ (big : Int))) = true := by unfold big; simp only [Bool.and_eq_true, decide_eq_true_eq]; omega
      rw [cnd_p hlt, e0, runeN_drop s k hlt, chk_t hc]
      have g1 : (k : Int) ≤ (s.length : Int) := by omega
      have g2 : (s.length : Int) ≤ (s.length : Int) := by omega
      have step : ¬ width s k = 0 → k + (dec s k).2 ≤ s.length → 1 ≤ (dec s k).2 → loopK (pcodeK (ctx F [(54, .eff (frameT S54)), (60, .eff (frameT S60)), (75, .pure S75)]) noL (lp Tryd.f84 0)) 2 (allBut 32 [0, 1, 9] ++ temps (lp Tryd.f84 0)) (allBut 32 [0]) m
        ⟨slots 32 [(0, .d (.str s)), (1, .func 60 [.ptr 0 0]), (9, .ptr 1 0)], [.cells [.d (.int .i64 (n + 1))], .iter s (k + (dec s k).2)]⟩ K =
          PS.cnd (eachR s (m + 1) k).1
        (K (.exit 0) ⟨slots 32 [(0, .d (.str s))], [.cells [.d (.int .i64 (n + (eachR s (m + 1) k).2.2.length))], .iter s (eachR s (m + 1) k).2.1]⟩)
        (K (.pan (.iface 108 (.agg [.int .i64 (eachR s (m + 1) k).2.1]))) ⟨slots 0 [], [.cells [.d (.int .i64 (n + (eachR s (m + 1) k).2.2.length))], .iter s ((eachR s (m + 1) k).2.1 + 1)]⟩) := by
        intro hw hd h1
        rw [ih (k + (dec s k).2) (n + 1) hd (by omega) (by omega) (by omega)]
        have e1 : eachR s (m + 1) k = ((eachR s m (k + (dec s k).2)).1, (eachR s m (k + (dec s k).2)).2.1, ((dec s k).1 : Int) :: (eachR s m (k + (dec s k).2)).2.2) := by simp only [eachR, if_pos hlt, if_neg hw]
        rw [e1]
        have e2 : n + 1 + ((eachR s m (k + (dec s k).2)).2.2.length : Int) = n + ((((dec s k).1 : Int) :: (eachR s m (k + (dec s k).2)).2.2).length : Int) := by rw [List.length_cons]; omega
        rw [e2]
      rcases dec_cases s k hlt with ⟨hb, hd, hw⟩ | ⟨hb, hd, hw⟩ | ⟨hb, h1', h2, h3, hw⟩
      · rw [cnd_n (by rw [hd]; show ¬ ((byt s k : Nat) : Int) = 65533; omega)]
        exact step (by omega) (by rw [hd]; show k + 1 ≤ _; omega) (by rw [hd]; exact Nat.le_refl _)
      · have hg : eachR s (m + 1) k = (false, k, []) := by simp only [eachR, if_pos hlt, if_pos hw]
        rw [cnd_p (by rw [hd]; rfl), chk_p g1, chk_p g2, cnd_p (by rw [hd]; decide), hg, hd]
        simp only [cnd_ff, List.length_nil, Int.natCast_zero, Int.add_zero]
      · by_cases c : (((dec s k).1 : Nat) : Int) = 65533
        · rw [cnd_p c, chk_p g1, chk_p g2, cnd_n (by omega)]
          exact step (by omega) (by omega) (by omega)
        · rw [cnd_n c]
          exact step (by omega) (by omega) (by omega)
    · have hg : eachR s (m + 1) k = (true, k, []) := by simp only [eachR, if_neg hlt]
      rw [cnd_n hlt, hg]
      simp only [cnd_tt, List.length_nil, Int.natCast_zero, Int.add_zero]

theorem loop84b (F : Nat) {R : Type} (s : List UInt8) (K : Ex → St → Option R) (hs : s.length + 1 ≤ 1000000) :
    ∀ (m k : Nat) (l : List DV), k ≤ s.length → l.length ≤ k + 1 → s.length - k < m →
      loopK (pcodeK (ctx F [(54, .eff (frameT S54)), (60, .eff (frameT S60)), (75, .pure S75)]) noL (lp Tryd.f84 0)) 2 (allBut 32 [0, 1, 9] ++ temps (lp Tryd.f84 0)) (allBut 32 [0]) m
        ⟨slots 32 [(0, .d (.str s)), (1, .func 54 [.ptr 0 0]), (9, .ptr 1 0)], [.cells [.own 1 l], .iter s k]⟩ K =
      PS.cnd (eachR s m k).1
        (K (.exit 0) ⟨slots 32 [(0, .d (.str s))], [.cells [.own 1 (l ++ writs (eachR s m k).2.2)], .iter s (eachR s m k).2.1]⟩)
        (K (.pan (.iface 108 (.agg [.int .i64 (eachR s m k).2.1]))) ⟨slots 0 [], [.cells [.own 1 (l ++ writs (eachR s m k).2.2)], .iter s ((eachR s m k).2.1 + 1)]⟩) := by
  intro m
  induction m with
  | zero => intro k l _ _ hm; omega
  | succ m ih =>
    intro k l hk h1 hm
    rw [loopK_succ, round84_0b]
    simp only [Tr.run, rnd, udec]
    by_cases hlt : k < s.length
    · have e0 : List.drop (k : Int).toNat (List.take ((s.length : Nat) : Int).toNat s) = s.drop k := by simp
      have hc : (decide (0 ≤ (((dec s k).1 : Nat) : Int)) && decide (l.length ≤ big)) = true := by unfold big; simp only [Bool.and_eq_true, decide_eq_true_eq]; omega
      rw [cnd_p hlt, e0, runeN_drop s k hlt, chk_t hc]
      have g1 : (k : Int) ≤ (s.length : Int) := by omega
      have g2 : (s.length : Int) ≤ (s.length : Int) := by omega
      have step : ¬ width s k = 0 → k + (dec s k).2 ≤ s.length → 1 ≤ (dec s k).2 → loopK (pcodeK (ctx F [(54, .eff (frameT S54)), (60, .eff (frameT S60)), (75, .pure S75)]) noL (lp Tryd.f84 0)) 2 (allBut 32 [0, 1, 9] ++ temps (lp Tryd.f84 0)) (allBut 32 [0]) m
        ⟨slots 32 [(0, .d (.str s)), (1, .func 54 [.ptr 0 0]), (9, .ptr 1 0)], [.cells [.own 1 (l ++ [.str (writ ((dec s k).1 : Int))])], .iter s (k + (dec s k).2)]⟩ K =
          PS.cnd (eachR s (m + 1) k).1
        (K (.exit 0) ⟨slots 32 [(0, .d (.str s))], [.cells [.own 1 (l ++ writs (eachR s (m + 1) k).2.2)], .iter s (eachR s (m + 1) k).2.1]⟩)
        (K (.pan (.iface 108 (.agg [.int .i64 (eachR s (m + 1) k).2.1]))) ⟨slots 0 [], [.cells [.own 1 (l ++ writs (eachR s (m + 1) k).2.2)], .iter s ((eachR s (m + 1) k).2.1 + 1)]⟩) := by
        intro hw hd h1
        rw [ih (k + (dec s k).2) (l ++ [DV.str (writ ((dec s k).1 : Int))]) hd (by rw [List.length_append, List.length_singleton]; omega) (by omega)]
        have e1 : eachR s (m + 1) k = ((eachR s m (k + (dec s k).2)).1, (eachR s m (k + (dec s k).2)).2.1, ((dec s k).1 : Int) :: (eachR s m (k + (dec s k).2)).2.2) := by simp only [eachR, if_pos hlt, if_neg hw]
        rw [e1]
        simp only [writs_cons, List.append_assoc, List.singleton_append]
      rcases dec_cases s k hlt with ⟨hb, hd, hw⟩ | ⟨hb, hd, hw⟩ | ⟨hb, h1', h2, h3, hw⟩
      · rw [cnd_n (by rw [hd]; show ¬ ((byt s k : Nat) : Int) = 65533; omega)]
        exact step (by omega) (by rw [hd]; show k + 1 ≤ _; omega) (by rw [hd]; exact Nat.le_refl _)
      · have hg : eachR s (m + 1) k = (false, k, []) := by simp only [eachR, if_pos hlt, if_pos hw]
        rw [cnd_p (by rw [hd]; rfl), chk_p g1, chk_p g2, cnd_p (by rw [hd]; decide), hg, hd]
        simp only [cnd_ff, writs, List.map_nil, List.append_nil]
      · by_cases c : (((dec s k).1 : Nat) : Int) = 65533
        · rw [cnd_p c, chk_p g1, chk_p g2, cnd_n (by omega)]
          exact step (by omega) (by omega) (by omega)
        · rw [cnd_n c]
          exact step (by omega) (by omega) (by omega)
    · have hg : eachR s (m + 1) k = (true, k, []) := by simp only [eachR, if_neg hlt]
      rw [cnd_n hlt, hg]
      simp only [cnd_tt, writs, List.map_nil, List.append_nil]
end Go.PS
end

section
namespace Go.PS
open Go.Proofs
theorem lps84 (F : Nat) (hF : F = FU) : LpsOk (ctx F [(54, .eff (frameT S54)), (60, .eff (frameT S60)), (75, .pure S75)]) L84 (loopsOf (body Tryd.f84)) := by
  refine lps_one (c := lp Tryd.f84 0) rfl (by kernel_rfl) fun R st K r h => ?_
  unfold T84 at h
  cases hs : shape 32 [0, 1, 9] st.slots with
  | false => rw [hs] at h; simp [Tr.run] at h
  | true =>
  rw [hs] at h
  simp only [cond_true] at h
  have he := shape_eq hs
  obtain ⟨sl0, H⟩ := st
  dsimp only at h he ⊢
  split at h
  · rename_i s n s' pos g0 g1 g9
    simp only [List.map_cons, List.map_nil, g0, g1, g9] at he
    subst he
    simp only [Tr.run] at h
    cases hc : (decide (s' = s) && decide (pos ≤ s.length) && decide (s.length ≤ big) && decide (0 ≤ n) && decide (n ≤ pos)) with
    | false => rw [hc] at h; simp at h
    | true =>
    rw [hc] at h
    simp only [Bool.and_eq_true, decide_eq_true_eq] at hc
    obtain ⟨⟨⟨⟨h0, h1⟩, h2⟩, h3⟩, h4⟩ := hc
    subst h0
    unfold big at h2
    refine (loop84a F s' K h2 F pos n h1 h3 h4 (by rw [hF]; unfold FU; omega)).trans ?_
    rw [← h, hF]
    rfl
  · rename_i s l s' pos g0 g1 g9
    simp only [List.map_cons, List.map_nil, g0, g1, g9] at he
    subst he
    simp only [Tr.run] at h
    cases hc : (decide (s' = s) && decide (pos ≤ s.length) && decide (s.length + 1 ≤ big) && decide (l.length ≤ pos + 1)) with
    | false => rw [hc] at h; simp at h
    | true =>
    rw [hc] at h
    simp only [Bool.and_eq_true, decide_eq_true_eq] at hc
    obtain ⟨⟨⟨h0, h1⟩, h2⟩, h3⟩ := hc
    subst h0
    unfold big at h2
    refine (loop84b F s' K h2 F pos l h1 h3 (by rw [hF]; unfold FU; omega)).trans ?_
    rw [← h, hF]
    rfl
  · simp [Tr.run] at h

theorem ok84 (W0 : World) (hW : Laid W0) : EKOk Tryd.prog W0 84 (.eff (frameT S84)) := by
  refine eff_of (tyOk FU [(54, .eff (frameT S54)), (60, .eff (frameT S60)), (75, .pure S75)]) (look_ok (all_cons (ok54 W0) (all_cons (ok60 W0) (all_cons (ok75 hW) all_nil)))) mixed fn84 (lps84 FU rfl) fun args H r h => ?_
  unfold S84 at h
  split at h
  · rename_i s n
    refine (run84 FU s n).trans ?_
    rw [← h]
    simp only [Tr.val_chk, chk_some, Bool.and_eq_true, decide_eq_true_eq] at h
    obtain ⟨h0, rfl⟩ := h.1
    simp only [Tr.val_ok, Tr.val_cnd, Tr.val_chk, okR, runesR, atR, Int.zero_add]
    rw [chk_t (by simp [h0]), chk_t (by simp [h0])]
  · rename_i s l
    refine (run84_2 FU s l).trans ?_
    rw [← h]
    simp only [Tr.val_chk, chk_some, Bool.and_eq_true, decide_eq_true_eq] at h
    obtain ⟨h0, h1⟩ := h.1
    simp only [Tr.val_ok, Tr.val_cnd, Tr.val_chk, okR, runesR, atR]
    rw [chk_t (by simp [h0, h1]), chk_t (by simp [h0, h1])]
  · simp [Tr.val_no] at h

theorem ok83 (W0 : World) : SoundD Tryd.prog W0 83 (frameD S83) := by
  refine SoundD.frame (recov_of (tyOk 0 []) (look_ok all_nil) mixed rc83 (lpsOk_no _ _) fun m args H r h => ?_)
  unfold S83 at h
  split at h
  · rename_i b
    exact (run83 0 b).trans h
  · rename_i n b
    exact (run83_2 0 b n).trans h
  · simp at h

theorem ok53 (W0 : World) (hW : Laid W0) : EKOk Tryd.prog W0 53 (.eff (frameT S53)) := by
  refine effD_of (tyOk 0 [(84, .eff (frameT S84))]) (look_ok (all_cons (ok84 W0 hW) all_nil)) mixed fn53 (lpsOk_no _ _) df53 (ok83 W0) fun args H r h => ?_
  unfold S53 at h
  split at h
  · rename_i s n
    refine (run53 0 s n).trans ?_
    rw [← h]
    simp only [Tr.val_ok, Tr.val_cnd, Tr.val_chk]
    cases okR s <;> rfl
  · rename_i s l
    refine (run53_2 0 s l).trans ?_
    rw [← h]
    simp only [Tr.val_ok, Tr.val_cnd, Tr.val_chk]
    cases okR s <;> rfl
  · simp [Tr.val_no] at h

theorem ok28 (W0 : World) (hW : Laid W0) : EKOk Tryd.prog W0 28 (.pure S28) := by
  refine pure_of (tyOk 0 [(53, .eff (frameT S53))]) (look_ok (all_cons (ok53 W0 hW) all_nil)) mixed fn28 (lpsOk_no _ _) fun args r h => ?_
  unfold S28 at h
  split at h
  · rename_i s
    refine (run28 0 s).trans ?_
    rw [← h]
    simp only [Tr.val_chk, chk_some, decide_eq_true_eq] at h
    simp only [Tr.val_ok, Tr.val_cnd, Tr.val_chk, runesN]
    rw [chk_t (by simp [h.1]), chk_p h.1]
    cases okR s <;> rfl
  · simp [Tr.val_no] at h

theorem ok21 (W0 : World) (hW : Laid W0) : EKOk Tryd.prog W0 21 (.pure S21) := by
  refine pure_of (tyOk 0 [(28, .pure S28)]) (look_ok (all_cons (ok28 W0 hW) all_nil)) mixed fn21x (lpsOk_no _ _) fun args r h => ?_
  unfold S21 at h
  split at h
  · rename_i k n s
    refine (run21x 0 k n s).trans ?_
    rw [← h]
    simp only [Tr.val_chk, chk_some, decide_eq_true_eq] at h
    have hl : (0 : Int) ≤ (runesR s).length := by omega
    have hr : (runesN s ≥ 0) ↔ okR s = true := by unfold runesN; split <;> simp_all
    have h40 : ((s.length : Int) ≤ 40) ↔ s.length ≤ 40 := by omega
    simp only [Tr.val_ok, Tr.val_cnd, Tr.val_chk, cnd_i, chk_i, decide_eq_true_eq, hr, h40, h.1, rightR, Bool.or_eq_true, Bool.and_eq_true]
    grind
  · simp [Tr.val_no] at h
end Go.PS
end
