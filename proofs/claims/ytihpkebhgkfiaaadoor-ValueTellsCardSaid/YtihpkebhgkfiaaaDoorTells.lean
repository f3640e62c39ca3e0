/- PROVED: fastilaw01.ValueTells returns true for every two values (value.Check, Runes, Cmp, Text and Quote of the program tell what the reference's tell), each argument reads as it did, and nothing that was there is changed.
   CONDITIONS: only the row's own: the listed package-level variables hold what the program's text lays into them (the card ties them to that text). -/
import Derived.Test.YtihpkebhgkfiaaaDoorTellB
import Derived.Test.YtihpkebhgkfiaaaDoorVaC
import Derived.Stop.FmtQuoteTie
import Derived.Test.YtihpkebhgkfiaaaDoorCards
set_option linter.all false
section
namespace Go.PS
open Go.Proofs
theorem nums_back (l : List UInt8) : (Go.Extern.FmtText.nums l).map (fun x => x.toNat.toUInt8) = l := by
  unfold Go.Extern.FmtText.nums
  induction l with
  | nil => rfl
  | cons b l ih => simp only [List.map_cons, ih]; simp
theorem enc_def (r : Int) : enc r = (Utf8.encode r).data.toList := rfl
theorem enc_nums (r : Nat) : Go.Extern.FmtText.nums (enc (r : Int)) = Lib.encodeRuneZ (r : Int) :=
  (congrArg Go.Extern.FmtText.nums (enc_def r)).trans (Go.Extern.FmtText.encode_eq r)
theorem enc_rune (r : Nat) : enc (r : Int) = Lib.encodeRune (r : Int) := by
  have h := enc_nums r
  generalize enc (r : Int) = l at h
  unfold Lib.encodeRune
  rw [← h, nums_back]
theorem decL_drop (s : List UInt8) (k : Nat) : Lib.decodeL (s.drop k) = dec s k := by
  rw [Lib.decodeL_N]
  unfold dec byt
  have e : ∀ j, (s.drop k).getD j 0 = s.getD (k + j) 0 := by
    intro j
    simp [List.getD_eq_getElem?_getD, List.getElem?_drop]
  simp only [e, List.length_drop, Nat.add_zero]
/-- a rune that stands in a text is encoded by the bytes that stand there -/
theorem enc_dec (s : List UInt8) (k : Nat) (h : k < s.length) (hv : ¬ ((dec s k).1 = 65533 ∧ (dec s k).2 = 1)) : enc ((dec s k).1 : Int) = (s.drop k).take (dec s k).2 := by
  rw [enc_rune, ← decL_drop]
  rw [← decL_drop] at hv
  exact Lib.encode_decode _ (by intro e; have := congrArg List.length e; rw [List.length_drop] at this; simp at this; omega) hv
theorem shape_hi (n b0 b1 b2 b3 : Nat) (h : 2 ≤ (Lib.decodeN n b0 b1 b2 b3).2) : 128 ≤ b0 ∧ 128 ≤ b1 ∧ ((Lib.decodeN n b0 b1 b2 b3).2 ≥ 3 → 128 ≤ b2) ∧ ((Lib.decodeN n b0 b1 b2 b3).2 ≥ 4 → 128 ≤ b3) ∧ (Lib.decodeN n b0 b1 b2 b3).2 ≤ 4 := by
  unfold Lib.decodeN at h ⊢
  grind
theorem flatB_append : ∀ a b : List UInt8, flatB (a ++ b) = flatB a ++ flatB b
  | [], _ => rfl
  | x :: a, b => by simp only [List.cons_append, flatB, flatB_append a b, List.append_assoc]
theorem flatB_hi : ∀ a : List UInt8, (∀ x ∈ a, 128 ≤ x.toNat) → flatB a = a
  | [], _ => rfl
  | x :: a, h => by
    have hx := h x (List.mem_cons_self ..)
    have : writB (x.toNat : Int) = [x] := by
      unfold writB
      rw [if_neg (by omega), if_neg (by omega), if_neg (by omega)]
      simp
    simp only [flatB, this, flatB_hi a fun y hy => h y (List.mem_cons_of_mem _ hy)]
    rfl
theorem take_hi (s : List UInt8) (k : Nat) (h : 2 ≤ (dec s k).2) (hl : (dec s k).2 ≤ s.length - k) : ∀ x ∈ (s.drop k).take (dec s k).2, 128 ≤ x.toNat := by
  have hs := shape_hi (s.length - k) (byt s k) (byt s (k + 1)) (byt s (k + 2)) (byt s (k + 3)) h
  obtain ⟨h0, h1, h2, h3, h4⟩ := hs
  have hd : Lib.decodeN (s.length - k) (byt s k) (byt s (k + 1)) (byt s (k + 2)) (byt s (k + 3)) = dec s k := rfl
  rw [hd] at h2 h3 h4
  intro x hx
  obtain ⟨j, hj, rfl⟩ := List.mem_iff_getElem.1 hx
  rw [List.length_take, List.length_drop] at hj
  have e : ((s.drop k).take (dec s k).2)[j].toNat = byt s (k + j) := by
    rw [List.getElem_take, List.getElem_drop]
    unfold byt
    simp [List.getD_eq_getElem?_getD, show k + j < s.length by omega]
  rw [e]
  have : j = 0 ∨ j = 1 ∨ j = 2 ∨ j = 3 := by omega
  rcases this with rfl | rfl | rfl | rfl
  · exact h0
  · exact h1
  · exact h2 (by omega)
  · exact h3 (by omega)
theorem enc_lo (n : Nat) (h : n < 128) : enc (n : Int) = [UInt8.ofNat n] := by
  rw [enc_rune]
  unfold Lib.encodeRune
  rw [Lib.encodeRuneZ_one (by omega) (by omega)]
  simp
theorem writ_lo (n : Nat) (h : n < 128) : writ (n : Int) = writB (n : Int) := by
  have e := enc_lo n h
  unfold writ writB
  rw [e]
  simp only [Int.toNat_natCast]
theorem writ_hi (n : Nat) (h : 128 ≤ n) : writ (n : Int) = enc (n : Int) := by
  unfold writ
  rw [if_neg (by omega), if_neg (by omega), if_neg (by omega)]
theorem flat_eq (s : List UInt8) : ∀ (m k : Nat), k ≤ s.length → s.length - k < m → (eachR s m k).1 = true → ((eachR s m k).2.2.map writ).flatten = flatB (s.drop k) := by
  intro m
  induction m with
  | zero => intro k _ hm; omega
  | succ m ih =>
    intro k hk hm ho
    by_cases hlt : k < s.length
    · by_cases hw : width s k = 0
      · simp only [eachR, if_pos hlt, if_pos hw] at ho; simp at ho
      · have e1 : eachR s (m + 1) k = ((eachR s m (k + (dec s k).2)).1, (eachR s m (k + (dec s k).2)).2.1, ((dec s k).1 : Int) :: (eachR s m (k + (dec s k).2)).2.2) := by simp only [eachR, if_pos hlt, if_neg hw]
        rw [e1] at ho ⊢
        simp only [List.map_cons, List.flatten_cons]
        have hsplit : s.drop k = (s.drop k).take (dec s k).2 ++ s.drop (k + (dec s k).2) := by
          rw [← List.drop_drop, List.take_append_drop]
        rcases dec_cases s k hlt with ⟨hb, hd, hw'⟩ | ⟨hb, hd, hw'⟩ | ⟨hb, h1, h2, h3, hw'⟩
        · have e2 : (dec s k).2 = 1 := by rw [hd]
          rw [ih (k + (dec s k).2) (by omega) (by omega) ho, hsplit, flatB_append]
          congr 1
          have e3 : (s.drop k).take (dec s k).2 = [s.getD k 0] := by
            have hc : s.drop k = s[k] :: s.drop (k + 1) := List.drop_eq_getElem_cons hlt
            rw [e2, hc]
            show [s[k]] = _
            simp [List.getD_eq_getElem?_getD, hlt]
          rw [e3, hd]
          show writ ((byt s k : Nat) : Int) = writB ((s.getD k 0).toNat : Int) ++ flatB []
          rw [writ_lo _ hb]
          simp [flatB, byt]
        · exact absurd hw' hw
        · rw [ih (k + (dec s k).2) (by omega) (by omega) ho]
          conv => rhs; rw [hsplit, flatB_append]
          congr 1
          rw [writ_hi _ h1, enc_dec s k hlt (by omega), flatB_hi _ (take_hi s k h2 h3)]
    · have e1 : eachR s (m + 1) k = (true, k, []) := by simp only [eachR, if_neg hlt]
      rw [e1, List.drop_eq_nil_of_le (by omega)]
      rfl
theorem quote_eq (s : List UInt8) (hs : s.length ≤ big) (ho : okR s = true) : quoteB s = quoteR s := by
  unfold big at hs
  have := flat_eq s FU 0 (Nat.zero_le _) (by unfold FU; omega) ho
  unfold quoteB quoteR runesR
  rw [this]
  rfl
theorem less_iff : ∀ s t : List UInt8, Op.bytesLess s t = decide (Lib.compareBytes s t < 0)
  | [], [] => rfl
  | _ :: _, [] => rfl
  | [], _ :: _ => rfl
  | a :: s, b :: t => by
    have ih := less_iff s t
    simp only [Op.bytesLess, Lib.compareBytes, ih]
    by_cases h1 : a < b
    · simp [h1]
    · by_cases h2 : b < a
      · have : ¬ a = b := by rintro rfl; exact h1 h2
        simp [h1, h2, this]
      · have : a = b := by
          apply UInt8.toNat_inj.1
          rw [UInt8.lt_iff_toNat_lt] at h1 h2
          omega
        subst this
        simp
def S25 : List PV → Tr PV := S21
theorem ok25 (W0 : World) : EKOk Tryd.prog W0 25 (.pure S21) := by
  refine pure_of (tyOk 0 [(50, .pure S50)]) (look_ok (all_cons (ok50 W0) all_nil)) mixed fn25 (lpsOk_no _ _) fun args r h => ?_
  unfold S21 at h
  split at h
  · rename_i k n s
    refine (run25 0 k n s).trans ?_
    rw [← h]
    simp only [Tr.val_ok, Tr.val_cnd, Tr.val_chk]
    cases rightR k n s <;> rfl
  · simp [Tr.val_no] at h
theorem ok27 (W0 : World) : EKOk Tryd.prog W0 27 (.pure S26) := by
  refine pure_of (tyOk 0 []) (look_ok all_nil) mixed fn27 (lpsOk_no _ _) fun args r h => ?_
  unfold S26 at h
  split at h
  · rename_i k n s l m t
    refine (run27 0 k n l m s t).trans ?_
    rw [← h]
    have z := cb_zero s t
    have rg := cb_range s t
    simp only [Tr.val_ok, Tr.val_cnd, less_iff, cnd_i, decide_eq_true_eq, Bool.and_eq_true, Bool.not_eq_true', decide_eq_false_iff_not, and_true]
    unfold vcmp cmpI
    grind
  · simp [Tr.val_no] at h
end Go.PS
end

section
namespace Go.PS
open Go.Proofs
theorem ek_mono {P : Program} {W0 : World} {f : Nat} {S S' : List PV → Tr PV} (h : EKOk P W0 f (.pure S)) (hm : ∀ args v, (S' args).val = some v → (S args).val = some v) : EKOk P W0 f (.pure S') :=
  ⟨h.enters, fun args v hv => h.calls args v (hm args v hv)⟩
def textV (k n : Int) (s : List UInt8) : List UInt8 := if rightR k n s = true then (if k = 1 then Lib.itoa n else quoteR s) else []
def rightE (k n : Int) (s : List UInt8) : Int := if rightR k n s = true then 0 else 2
def quoV (s : List UInt8) : List UInt8 := if okR s = true then quoteR s else []
def quoE (s : List UInt8) : Int := if okR s = true then 0 else 2
def S20u : List PV → Tr PV
  | [.d (.agg [.int .i64 k, .int .i64 n, .str s])] => .chk (decide (s.length ≤ big) && decide (-9223372036854775808 ≤ n) && decide (n ≤ 9223372036854775807)) (.ok (.tup [.d (.str (textV k n s)), .d (.int .i64 (rightE k n s))]))
  | _ => .no
def S21u : List PV → Tr PV
  | [.d (.agg [.int .i64 k, .int .i64 n, .str s])] => .chk (decide (s.length ≤ big)) (.ok (.d (.int .i64 (rightE k n s))))
  | _ => .no
def S23u : List PV → Tr PV
  | [.d (.str s)] => .chk (decide (s.length + 2 ≤ big)) (.ok (.tup [.d (.str (quoV s)), .d (.int .i64 (quoE s))]))
  | _ => .no
theorem ok20u (W0 : World) (hW : Laid W0) : EKOk Tryd.prog W0 20 (.pure S20u) := ek_mono (ok20 W0 hW) fun args v h => by
  unfold S20u at h
  split at h
  · rename_i k n s
    rw [← h]
    unfold S20 textV rightE
    simp only [Tr.val_ok, Tr.val_chk, Tr.val_cnd, cnd_i, decide_eq_true_eq]
    congr 1
    cases rightR k n s with
    | false => rfl
    | true => simp only [if_true]; split <;> rfl
  · simp [Tr.val_no] at h
theorem ok22u (W0 : World) : EKOk Tryd.prog W0 22 (.pure S20u) := ek_mono (ok22 W0) fun args v h => by
  unfold S20u at h
  split at h
  · rename_i k n s
    rw [← h]
    unfold S22 textV rightE
    simp only [Tr.val_chk, chk_some, Bool.and_eq_true, decide_eq_true_eq] at h
    obtain ⟨⟨h0, h1⟩, h2⟩ := h.1
    simp only [Tr.val_ok, Tr.val_chk, Tr.val_cnd, cnd_i, decide_eq_true_eq]
    congr 1
    cases hr : rightR k n s with
    | false => rfl
    | true =>
      simp only [if_true]
      by_cases c : k = 1
      · simp only [if_pos c]
      · simp only [if_neg c]
        have ho : okR s = true := by unfold rightR at hr; simp [c] at hr; exact hr.2
        rw [quote_eq s h0 ho]
  · simp [Tr.val_no] at h
theorem ok21u (W0 : World) (hW : Laid W0) : EKOk Tryd.prog W0 21 (.pure S21u) := ek_mono (ok21 W0 hW) fun args v h => by
  unfold S21u at h
  split at h
  · rename_i k n s
    rw [← h]
    unfold S21 rightE
    simp only [Tr.val_ok, Tr.val_chk, Tr.val_cnd]
    congr 1
    cases rightR k n s <;> rfl
  · simp [Tr.val_no] at h
theorem ok25u (W0 : World) : EKOk Tryd.prog W0 25 (.pure S21u) := ek_mono (ok25 W0) fun args v h => by
  unfold S21u at h
  split at h
  · rename_i k n s
    rw [← h]
    unfold S21 rightE
    simp only [Tr.val_ok, Tr.val_chk, Tr.val_cnd]
    congr 1
    cases rightR k n s <;> rfl
  · simp [Tr.val_no] at h
theorem ok23u (W0 : World) (hW : Laid W0) : EKOk Tryd.prog W0 23 (.pure S23u) := ek_mono (ok23 W0 hW) fun args v h => by
  unfold S23u at h
  split at h
  · rename_i s
    rw [← h]
    unfold S23 quoV quoE
    simp only [Tr.val_ok, Tr.val_chk, Tr.val_cnd]
    congr 1
    cases okR s <;> rfl
  · simp [Tr.val_no] at h
theorem ok24u (W0 : World) : EKOk Tryd.prog W0 24 (.pure S23u) := ek_mono (ok24 W0) fun args v h => by
  unfold S23u at h
  split at h
  · rename_i s
    rw [← h]
    simp only [Tr.val_chk, chk_some, decide_eq_true_eq] at h
    have h0 := h.1
    have h1 : s.length ≤ big := by omega
    unfold S24 quoV quoE
    simp only [Tr.val_ok, Tr.val_chk, Tr.val_cnd]
    rw [chk_p h0, chk_p h1]
    cases ho : okR s with
    | false => rfl
    | true => rw [cnd_tt, quote_eq s h1 ho]; rfl
  · simp [Tr.val_no] at h
def S7 : List PV → Tr PV
  | [.d (.agg [.int .i64 _, .int .i64 n, .str _]), .d (.agg [.int .i64 _, .int .i64 _, .str _])] => .chk (decide (-9223372036854775808 ≤ n) && decide (n ≤ 9223372036854775807)) (.ok (.d (.bool true)))
  | _ => .no
end Go.PS
end

section
namespace Go.PS
open Go.Proofs
set_option maxRecDepth 100000
/-! fasti fastilaw01.ValueTells -/
theorem fn7 : FnOk Tryd.prog 7 90 [.tmp 4] (body Tryd.f7) := ⟨Tryd.f7, Tryd.func7, bodySome _ (by kernel_rfl), by kernel_rfl, by kernel_rfl, by kernel_rfl, by kernel_rfl⟩
theorem run7 (F : Nat) (k n l m : Int) (s t : List UInt8) : runP (ctx F [(16, .pure S16), (19, .pure S19), (20, .pure S20u), (21, .pure S21u), (22, .pure S20u), (23, .pure S23u), (24, .pure S23u), (25, .pure S21u), (26, .pure S26), (27, .pure S26), (28, .pure S28), (29, .pure S28)]) noL 90 [.tmp 4] (body Tryd.f7) [.d (.agg [.int .i64 k, .int .i64 n, .str s]), .d (.agg [.int .i64 l, .int .i64 m, .str t])] =
    Tr.val
      (.cnd (!decide ((↑s.length : Int) ≤ 5000))
        (.ok (PV.d (DV.bool true)))
        (.cnd (!decide ((↑t.length : Int) ≤ 5000))
          (.ok (PV.d (DV.bool true)))
          (.chk (decide (s.length ≤ big) && decide (-9223372036854775808 ≤ n) && decide (n ≤ 9223372036854775807))
          (.chk (decide (s.length ≤ big) && decide (-9223372036854775808 ≤ n) && decide (n ≤ 9223372036854775807))
          (.chk (decide (t.length + 2 ≤ big))
          (.chk (decide (t.length + 2 ≤ big))
          (.cnd (decide (textV k n s = textV k n s))
            (.cnd (decide (rightE k n s = rightE k n s))
              (.cnd (decide (quoV t = quoV t))
                (.cnd (decide (quoE t = quoE t))
                  (.chk (decide (s.length ≤ big))
                  (.chk (decide (s.length ≤ big))
                  (.cnd (decide (rightE k n s = rightE k n s))
                    (.cnd (decide (vcmp k n s l m t = vcmp k n s l m t))
                      (.chk (decide (s.length ≤ big))
                      (.chk (decide (s.length ≤ big))
                      (.cnd (decide (runesN s = runesN s))
                        (.ok (PV.d (DV.bool true)))
                        (.ok (PV.d (DV.bool false))))))
                      (.ok (PV.d (DV.bool false))))
                    (.ok (PV.d (DV.bool false))))))
                  (.ok (PV.d (DV.bool false))))
                (.ok (PV.d (DV.bool false))))
              (.ok (PV.d (DV.bool false))))
            (.ok (PV.d (DV.bool false)))))))))) := by kernel_rfl
end Go.PS
end

section
namespace Go.PS
open Go.Proofs
theorem ok7 (W0 : World) (hW : Laid W0) : EKOk Tryd.prog W0 7 (.pure S7) := by
  refine pure_of (tyOk 0 [(16, .pure S16), (19, .pure S19), (20, .pure S20u), (21, .pure S21u), (22, .pure S20u), (23, .pure S23u), (24, .pure S23u), (25, .pure S21u), (26, .pure S26), (27, .pure S26), (28, .pure S28), (29, .pure S28)])
    (look_ok (all_cons (ok16 W0 hW) (all_cons (ok19 W0) (all_cons (ok20u W0 hW) (all_cons (ok21u W0 hW) (all_cons (ok22u W0) (all_cons (ok23u W0 hW) (all_cons (ok24u W0) (all_cons (ok25u W0) (all_cons (ok26 W0) (all_cons (ok27 W0) (all_cons (ok28 W0 hW) (all_cons (ok29 W0) all_nil)))))))))))))
    mixed fn7 (lpsOk_no _ _) fun args r h => ?_
  unfold S7 at h
  split at h
  · rename_i k n s l m t
    refine (run7 0 k n l m s t).trans ?_
    rw [← h]
    simp only [Tr.val_chk, chk_some, Bool.and_eq_true, decide_eq_true_eq] at h
    obtain ⟨h1, h2⟩ := h.1
    simp only [Tr.val_ok, Tr.val_cnd, Tr.val_chk]
    rw [chk_t (b := decide (-9223372036854775808 ≤ n) && decide (n ≤ 9223372036854775807)) (by simp [h1, h2])]
    by_cases c1 : (s.length : Int) ≤ 5000
    · rw [cnd_f (b := !decide ((s.length : Int) ≤ 5000)) (by simp [c1])]
      by_cases c2 : (t.length : Int) ≤ 5000
      · have b1 : s.length ≤ big := by unfold big; omega
        have b2 : t.length + 2 ≤ big := by unfold big; omega
        have b3 : (decide (s.length ≤ big) && decide (-9223372036854775808 ≤ n) && decide (n ≤ 9223372036854775807)) = true := by simp [b1, h1, h2]
        rw [cnd_f (b := !decide ((t.length : Int) ≤ 5000)) (by simp [c2])]
        simp only [chk_t b3, chk_p b2, chk_p b1, cnd_p (p := True) trivial]
      · rw [cnd_t (b := !decide ((t.length : Int) ≤ 5000)) (by simpa using c2)]
    · rw [cnd_t (b := !decide ((s.length : Int) ≤ 5000)) (by simpa using c1)]
  · simp [Tr.val_no] at h
end Go.PS
end

section
set_option maxRecDepth 100000
namespace Go.Proofs.YtihpkebhgkfiaaaDoor
open Go.PS Go.Shelf Go.Lib
open Go.ChangeShapes Go.WideShapes Go.ChangeAt Go.RowKit
open Go.ChangeMaps (open_string shut_string)

theorem cells33 : Tryd.prog.cellsOf 33 = 3 := by kernel_rfl
theorem cells31 : Tryd.prog.cellsOf 31 = 1 := by kernel_rfl
theorem cells3 : Tryd.prog.cellsOf 3 = 1 := by kernel_rfl
theorem cells9 : Tryd.prog.cellsOf 9 = 1 := by kernel_rfl

section
variable {H : Type} {enc : TypeId × Value → H} {W : World} {base : Nat} {sp : Nat → Bool} {held : Bool}
/-- an argument of the type api.Value, opened -/
theorem open_value {r : Reach} {b0 : Nat} {v : Value} {d : DataW H} {ps : List MemPlace} (hval : Value.okWide Tryd.prog W r b0 33 v) (hd : DataW.Trod enc Tryd.prog W base sp held 33 v d ps) :
    ∃ (k n : Int) (s : ByteArray), v = .agg #[.int .i64 k, .int .i64 n, .string s] ∧ d = .agg [.lit (.int .i64 k), .lit (.int .i64 n), .lit (.string s.data.toList)] ∧ ps = [] ∧ (Lit.int .i64 k).wf = true ∧ (Lit.int .i64 n).wf = true ∧ s.size ≤ maxLen := by
  obtain ⟨cs, rfl, hc⟩ := okWide_struct Tryd.underlying33 hval
  rw [cells33] at hc
  obtain ⟨l⟩ := cs
  match l, hc with
  | [c0, c1, c2], _ =>
  obtain ⟨fuel, hf⟩ := hd
  obtain ⟨xs, m, _, ex, _, hl, hel⟩ := DataW.trod_struct Tryd.underlying33 hf
  have hl3 : xs.length = 3 := hl
  match xs, hl3 with
  | [x0, x1, x2], _ =>
  have h0 := hel 0 _ rfl
  have h1 := hel 1 _ rfl
  have h2 := hel 2 _ rfl
  simp only [Value.cells] at h0 h1 h2
  obtain ⟨k, e0, y0, wk⟩ := DataW.trod_int Tryd.underlying31 h0
  obtain ⟨n, e1, y1, wn⟩ := DataW.trod_int Tryd.underlying3 h1
  obtain ⟨s, e2, y2, hs⟩ := DataW.trod_string Tryd.underlying9 h2
  simp [cells31, cells3, cells9] at e0 e1 e2
  subst e0; subst e1; subst e2; subst y0; subst y1; subst y2
  simp at ex
  exact ⟨k, n, s, rfl, ex.1, ex.2, wk, wn, hs⟩
theorem shut_value {k n : Int} {s : ByteArray} (wk : (Lit.int .i64 k).wf = true) (wn : (Lit.int .i64 n).wf = true) (hs : s.size ≤ maxLen) :
    DataW.Trod enc Tryd.prog W base sp held 33 (.agg #[.int .i64 k, .int .i64 n, .string s]) (.agg [.lit (.int .i64 k), .lit (.int .i64 n), .lit (.string s.data.toList)]) [] :=
  ⟨2, by
    show DataW.trod enc Tryd.prog W base sp held (1 + 1) 33 [.int .i64 k, .int .i64 n, .string s] = _
    rw [DataW.trod_step]
    unfold DataW.trodStep
    simp only [Tryd.underlying33]
    simp [cells33, cells31, cells3, cells9, DataW.trod, Tryd.underlying31, Tryd.underlying3, Tryd.underlying9, wk, wn, hs]⟩

theorem enc_value {k n : Int} {s : ByteArray} (hs : s.size ≤ maxLen) : PEnc bare W [] (.d (.agg [.int .i64 k, .int .i64 n, .str s.data.toList])) (.agg #[.int .i64 k, .int .i64 n, .string s]) := by
  have e : (⟨s.data.toList.toArray⟩ : ByteArray) = s := by cases s; simp
  have h1 : Enc bare W (.str s.data.toList) (.string ⟨s.data.toList.toArray⟩) := .str _ (by
      rw [← Lib.size_eq]; unfold maxLen at hs; omega)
  rw [e] at h1
  exact .d (.agg _ _ (.cons (.int _ _) (.cons (.int _ _) (.cons h1 .nil))) (fun v hv => by
    simp at hv
    rcases hv with rfl | rfl | rfl <;> rfl))
/-- a law that PS proves true returns true in the model and leaves what was there. -/
theorem law_true {f : Nat} {S : List PV → Tr PV} {vs : List PV} {xs : List Value} (h : EKOk Tryd.prog W f (.pure S)) (hx : PEncL bare W [] vs xs) (hS : (S vs).val = some (.d (.bool true))) :
    Calls Tryd.prog f xs.toArray W fun e W' => e = .returned (.bool true) ∧ Below W.heap.size W W' := by
  refine (SoundP.calls h vs _ hS bare [] W xs (gl_bare W) (fun _ _ _ h => by cases h) hx).mono ?_
  rintro e W' ⟨x, o', rfl, hg, hx, _⟩
  refine ⟨?_, hg.os, hg.tape, hg.output, hg.size, fun k hk => (hg.same k hk).1⟩
  rw [hx.bool_inv]
end

end Go.Proofs.YtihpkebhgkfiaaaDoor
end

section
set_option maxRecDepth 100000
namespace Go.Proofs.YtihpkebhgkfiaaaDoor
open Go.PS Go.Shelf Go.Lib
open Go.ChangeShapes Go.WideShapes Go.ChangeAt Go.RowKit
open Go.ChangeMaps (open_string shut_string)

theorem s7_true {k n l m : Int} {s t : List UInt8} (wn : (Lit.int .i64 n).wf = true) : (S7 [.d (.agg [.int .i64 k, .int .i64 n, .str s]), .d (.agg [.int .i64 l, .int .i64 m, .str t])]).val = some (.d (.bool true)) := by
  have h : (decide (IntKind.i64.min ≤ n) && decide (n ≤ IntKind.i64.max)) = true := wn
  simp only [Bool.and_eq_true, decide_eq_true_eq] at h
  have e1 : IntKind.i64.min = -9223372036854775808 := by rfl
  have e2 : IntKind.i64.max = 9223372036854775807 := by rfl
  rw [e1, e2] at h
  unfold S7
  simp only [Tr.val_chk, Tr.val_ok]
  rw [chk_t (by simp only [Bool.and_eq_true, decide_eq_true_eq]; omega)]
theorem tells_lifted (os : Os) (started : os.Started) (H : Type) (enc : TypeId × Value → H) :
    ReturnsInHanded {} Tryd.checked os 7 .any (fun w args => (Rows.valueTellsSpec.pre enc Tryd.prog Tryd.f7 Rows.valueTellsRow.domain false w args ∧ laidMetH Tryd.prog Rows.valueTellsRow.laid w) ∧ sizedMet enc Tryd.prog Tryd.f7 (OpenSpec.ofChange Rows.valueTellsSpec) false w args)
      (Rows.valueTellsSpec.post enc Tryd.prog Tryd.f7 false true false false) := by
  refine returnsInHanded_of_change_and (C := Tryd.checked) (X := fun w _ => laidMetH Tryd.prog Rows.valueTellsRow.laid w) (fun _ _ _ hh h => h.of_heap hh) own started (by kernel_rfl) Tryd.func7
    (ChangeSpec.witness_at (enc := enc) (C := Tryd.checked) (os := os) (X := fun w _ => laidMetH Tryd.prog Rows.valueTellsRow.laid w) false (World.laidAll Tryd.prog os laid) #[.agg #[.int .i64 0, .int .i64 0, .string ⟨#[]⟩], .agg #[.int .i64 0, .int .i64 0, .string ⟨#[]⟩]] 8 (World.laidAll_os _ _ _) (by kernel_rfl) (by kernel_rfl) (by kernel_rfl) (by kernel_rfl) (by kernel_rfl) (laid_met os _)) ?_
  intro W base args ds gs before hval0 hW _ _ hL _
  have hval : ∀ (j : Nat) t v, Tryd.f7.params[j]? = some t → args[j]? = some v → Value.okWide Tryd.prog W .any base t v := hval0
  have hW' := hW
  obtain ⟨p, q, hA0, hV0, rfl, _, _⟩ := hW
  have hA : DataW.TrodAll enc Tryd.prog W 0 (fun _ => true) true Tryd.f7.params.toList args.toList ds p := hA0
  rw [Tryd.params7] at hA hval
  obtain ⟨v0, v1, d0, d1, p0, p1, rfl, rfl, rfl, h0, h1⟩ := trodAll_two hA
  obtain ⟨rfl, rfl⟩ := trodVars_none hV0
  obtain ⟨k, n, s, rfl, rfl, rfl, wk, wn, ws⟩ := open_value (hval 0 33 _ rfl rfl) h0
  obtain ⟨l, m, t, rfl, rfl, rfl, wl, wm, wt⟩ := open_value (hval 1 33 _ rfl rfl) h1
  have e1 : ∀ d0 d1 : DataW H, Rows.valueTellsSpec.fn H ([d0, d1] ++ []) = { results := [.lit (.bool true)], args := [d0, d1] } := fun _ _ => rfl
  refine (law_true (ok7 W (laid_world hL)) (.cons (enc_value ws) (.cons (enc_value wt) .nil)) (s7_true wn)).mono ?_
  rintro e W' ⟨rfl, bel⟩
  refine ⟨_, rfl, _, _, _, [], [], [], hW', ?_, ?_, ?_, bel.frame _, fun h => by cases h⟩
  · rw [e1]; exact trodAll_mk1 (shut_bool Tryd.underlying4 true)
  · rw [e1]; exact trodAll_mk2 (shut_value wk wn ws) (shut_value wl wm wt)
  · rw [e1]; rfl

theorem tells_holds : Rows.ValueTellsSaid :=
  OpenClaim.holds_of_wide 7 Tryd.f7 rfl rfl rfl rfl rfl rfl rfl ⟨rfl, rfl, rfl, rfl, rfl⟩ rfl rfl rfl rfl rfl (by kernel_rfl) Tryd.func7 (by kernel_rfl)
    (of_decide_eq_true (by kernel_rfl)) (by unfold Func.isWrapper; rw [if_neg (of_decide_eq_false (by kernel_rfl))]; exact ⟨rfl, rfl⟩)
    (fun os started H enc _ => tells_lifted os started H enc)
end Go.Proofs.YtihpkebhgkfiaaaDoor
end

section
namespace Go.Proofs.YtihpkebhgkfiaaaDoor
open Go

theorem valueTells_card : Rows.ValueTellsCardSaid :=
  Claim7.holds_tied_plain_at .later [] [.data, .data, .data, .data, .sentinel, .sentinel, .pinned] true (true, "36bbe3e7eaadf27dabe13b421857fca0247e9a5d163028c61325c415c9f7cfbc") true
    tells_holds (fun _ h => by cases h) (by kernel_rfl) (fun _ h => by cases h) valueTells_row_tie rfl ⟨rfl, rfl⟩ (by kernel_rfl) rfl
    (fun f fn hf hfn => by
      obtain rfl : f = 7 := Option.some.inj ((show Tryd.prog.funcNamed "fasti/fastilaw01.ValueTells" = some 7 by kernel_rfl).symm.trans hf) |>.symm
      obtain rfl : fn = Tryd.f7 := (Option.some.inj (Tryd.func7.symm.trans hfn)).symm
      exact ⟨by kernel_rfl, fun j t ht => by
        rw [Tryd.params7] at ht
        have h9 : t = 33 := by
          rcases j with _ | _ | j
          · simpa using ht.symm
          · simpa using ht.symm
          · simp at ht
        subst h9
        exact (show Tryd.prog.wantsStandIn 33 = false by kernel_rfl)⟩)
    (by kernel_rfl)
#print axioms valueTells_card
end Go.Proofs.YtihpkebhgkfiaaaDoor
end
