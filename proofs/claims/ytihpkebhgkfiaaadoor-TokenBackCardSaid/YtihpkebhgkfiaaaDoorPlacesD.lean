/- A part of the proof of the claim (the pure semantics PS and the contracts of the functions over it). -/
import Derived.Test.YtihpkebhgkfiaaaDoorPlacesC
import Derived.Test.YtihpkebhgkfiaaaDoorPlacesB
import Derived.Stop.FmtQuoteTie
set_option linter.all false
section
namespace Go.PS
open Go.Proofs
theorem decD (u : Nat) : Lib.decDigits u = if u < 10 then [UInt8.ofNat (48 + u)] else Lib.decDigits (u / 10) ++ [UInt8.ofNat (48 + u % 10)] := by
  rw [Lib.decDigits]
  split <;> rfl
theorem itoa_small (n : Int) (h0 : 0 ≤ n) (h1 : n < 10) : Lib.itoa n = [UInt8.ofNat (48 + n).toNat] := by
  unfold Lib.itoa
  rw [if_neg (by omega), decD, if_pos (by omega)]
  congr 2; omega
theorem itoa_nsmall (n : Int) (h0 : n < 0) (h1 : n > -10) : Lib.itoa n = 45 :: Lib.itoa (-n) := by
  unfold Lib.itoa
  rw [if_pos h0, if_neg (by omega)]
  congr 2; omega
theorem itoa_pos (n : Int) (h : 10 ≤ n) : Lib.itoa n = Lib.itoa (n / 10) ++ Lib.itoa (n % 10) := by
  rw [itoa_small (n % 10) (by omega) (by omega)]
  unfold Lib.itoa
  rw [if_neg (by omega), if_neg (by omega), decD, if_neg (by omega)]
  congr 2
  · congr 1; omega
  · congr 1; omega
theorem itoa_neg' (n : Int) (h : n ≤ -10) : Lib.itoa n = Lib.itoa (-((-n) / 10)) ++ Lib.itoa ((-n) % 10) := by
  rw [itoa_small ((-n) % 10) (by omega) (by omega)]
  unfold Lib.itoa
  rw [if_pos (by omega), if_pos (by omega), decD, if_neg (by omega), List.cons_append]
  congr 3
  · congr 1; omega
  · congr 1; omega
theorem tdiv10 (n : Int) : n.tdiv 10 = if n < 0 then -((-n) / 10) else n / 10 := by
  split
  · have : n = -(-n) := by omega
    rw [this, Int.neg_tdiv, tdiv_nn (by omega)]; congr 1; congr 1; omega
  · exact tdiv_nn (by omega)
theorem tmod10 (n : Int) : n.tmod 10 = if n < 0 then -((-n) % 10) else n % 10 := by
  split
  · have : n = -(-n) := by omega
    rw [this, Int.neg_tmod, tmod_nn (by omega)]; congr 1; congr 1; omega
  · exact tmod_nn (by omega)
theorem dOk_small (k : Nat) (hk : k < 19) (n : Int) (h0 : 0 ≤ n) (h1 : n < 10) : dOk k n = true := by
  cases k with
  | zero => simp [dOk, h0, h1]
  | succ k =>
    have : 10 ≤ 10 ^ (k + 1) := by rw [Nat.pow_succ]; have := Nat.one_le_two_pow (n := 0); have : 1 ≤ 10 ^ k := Nat.one_le_iff_ne_zero.2 (by simp); omega
    simp only [dOk, Bool.and_eq_true, decide_eq_true_eq]; omega
theorem dOk_div (k : Nat) (n m : Int) (h : dOk (k + 1) n = true) (h1 : 10 ≤ n.natAbs) (hm : m.natAbs = n.natAbs / 10) : dOk k m = true := by
  simp only [dOk, Bool.and_eq_true, decide_eq_true_eq] at h
  cases k with
  | zero => simp at h; omega
  | succ k =>
    simp only [dOk, Bool.and_eq_true, decide_eq_true_eq]
    have := h.1
    rw [Nat.pow_succ] at this
    exact ⟨by rw [hm]; omega, by omega⟩
theorem decD_len : ∀ (k u : Nat), 1 ≤ k → u < 10 ^ k → (Lib.decDigits u).length ≤ k
  | 0, _, h, _ => by omega
  | k + 1, u, _, h => by
    rw [decD]
    split
    · simp
    · rename_i hu
      cases k with
      | zero => simp at h; omega
      | succ k =>
        have := decD_len (k + 1) (u / 10) (by omega) (by rw [Nat.pow_succ] at h; omega)
        simp only [List.length_append, List.length_singleton]; omega
theorem itoa_len20 (n : Int) (h : n.natAbs < 10000000000000000000) : (Lib.itoa n).length ≤ 20 := by
  have := decD_len 19 n.natAbs (by omega) (by omega)
  unfold Lib.itoa
  split
  · simp; omega
  · have e : n.toNat = n.natAbs := by omega
    rw [e]; omega
theorem ok51 (W0 : World) : ∀ k, EKOk Tryd.prog W0 51 (.pure (S51 k)) := by
  intro k
  induction k with
  | zero =>
    refine pure_of (tyOk 0 []) (look_ok all_nil) mixed fn51 (lpsOk_no _ _) fun args r h => ?_
    unfold S51 at h
    split at h
    · rename_i n
      refine (run51 0 n).trans ?_
      rw [← h]
      simp only [Tr.val_chk, chk_some, dOk, Bool.and_eq_true, decide_eq_true_eq] at h
      obtain ⟨h0, h1⟩ := h.1
      have w : IntKind.i64.wrap (48 + n) = 48 + n := wrap64 (by omega) (by omega)
      have w8 : IntKind.u8.wrap (48 + n) = 48 + n := wrap8 (by omega) (by omega)
      have e0 : ∀ z : DV, bytesOf (fillS (rep 1 z) [(0, DV.int .u8 (48 + n))]) = [UInt8.ofNat (48 + n).toNat] := fun _ => rfl
      simp only [Tr.val_ok, Tr.val_cnd, Tr.val_chk, w, w8, e0]
      rw [cnd_n (by omega), chk_p h1, chk_t (by simp [dOk, h0, h1]), itoa_small n h0 h1]
    · simp [Tr.val_no] at h
  | succ k ih =>
    refine pure_of (tyOk 0 [(51, .pure (S51 k))]) (look_ok (all_cons ih all_nil)) mixed fn51 (lpsOk_no _ _) fun args r h => ?_
    unfold S51 at h
    split at h
    · rename_i n
      refine (run51_2 0 n k).trans ?_
      rw [← h]
      simp only [Tr.val_chk, chk_some] at h
      have hd := h.1
      have hd' := hd
      simp only [dOk, Bool.and_eq_true, decide_eq_true_eq] at hd'
      obtain ⟨h0, h1⟩ := hd'
      have hp : 10 ^ (k + 1) ≤ 10 ^ 19 := Nat.pow_le_pow_right (by omega) (by omega)
      have hn : n.natAbs < 10000000000000000000 := by omega
      clear h
      have e0 : ∀ z : DV, bytesOf (fillS (rep 1 z) [(0, DV.int .u8 (48 + n))]) = [UInt8.ofNat (48 + n).toNat] := fun _ => rfl
      simp only [Tr.val_ok, Tr.val_cnd, Tr.val_chk, tdiv10, tmod10, hd]
      by_cases c : n < 0
      · simp only [if_pos c]
        have w1 : IntKind.i64.wrap (0 - -(-n % 10)) = -n % 10 := (wrap64 (by omega) (by omega)).trans (by omega)
        have w2 : IntKind.i64.wrap (-(-n / 10)) = -(-n / 10) := wrap64 (by omega) (by omega)
        have s1 : dOk k (-n % 10) = true := dOk_small k (by omega) _ (by omega) (by omega)
        have l1 := itoa_len20 (-n % 10) (by omega)
        have l2 := itoa_len20 (-(-n / 10)) (by omega)
        rw [cnd_p c, w1, w2]
        by_cases c2 : n > -10
        · have e : -n % 10 = -n := by omega
          rw [cnd_p c2, chk_t s1, chk_p (by rw [List.length_singleton]; omega), e, itoa_nsmall n c c2]; rfl
        · have s2 : dOk k (-(-n / 10)) = true := dOk_div k n _ hd (by omega) (by omega)
          rw [cnd_n c2, chk_t s2, chk_t s1, chk_p (by omega), itoa_neg' n (by omega)]; rfl
      · simp only [if_neg c]
        have w2 : IntKind.i64.wrap (n / 10) = n / 10 := wrap64 (by omega) (by omega)
        have l1 := itoa_len20 (n % 10) (by omega)
        have l2 := itoa_len20 (n / 10) (by omega)
        rw [cnd_n c, w2]
        by_cases c2 : n < 10
        · have w : IntKind.i64.wrap (48 + n) = 48 + n := wrap64 (by omega) (by omega)
          have w8 : IntKind.u8.wrap (48 + n) = 48 + n := wrap8 (by omega) (by omega)
          rw [cnd_p c2, w, w8, e0, itoa_small n (by omega) c2]; rfl
        · have s1 : dOk k (n % 10) = true := dOk_small k (by omega) _ (by omega) (by omega)
          have s2 : dOk k (n / 10) = true := dOk_div k n _ hd (by omega) (by omega)
          rw [cnd_n c2, chk_t s2, chk_t s1, chk_p (by omega), itoa_pos n (by omega)]; rfl
    · simp [Tr.val_no] at h

theorem ok22 (W0 : World) : EKOk Tryd.prog W0 22 (.pure S22) := by
  refine pure_of (tyOk 0 [(50, .pure S50), (51, .pure (S51 19)), (52, .pure S52)]) (look_ok (all_cons (ok50 W0) (all_cons (ok51 W0 19) (all_cons (ok52 W0) all_nil)))) mixed fn22 (lpsOk_no _ _) fun args r h => ?_
  unfold S22 at h
  split at h
  · rename_i k n s
    refine (run22 0 k n s).trans ?_
    rw [← h]
    simp only [Tr.val_chk, chk_some, Bool.and_eq_true, decide_eq_true_eq] at h
    obtain ⟨⟨h0, h1⟩, h2⟩ := h.1
    clear h
    have hd : dOk 19 n = true := by simp only [dOk, Bool.and_eq_true, decide_eq_true_eq]; omega
    simp only [Tr.val_ok, Tr.val_cnd, Tr.val_chk, hd]
    rw [chk_t (b := decide (s.length ≤ big) && decide (-9223372036854775808 ≤ n) && decide (n ≤ 9223372036854775807)) (by simp [h0, h1, h2])]
    simp only [chk_p h0]
    cases rightR k n s <;> rfl
  · simp [Tr.val_no] at h
end Go.PS
end

section
namespace Go.PS
open Go.Proofs
theorem nums_back (l : List UInt8) : (Go.Extern.FmtText.nums l).map (fun x => x.toNat.toUInt8) = l := by
  unfold Go.Extern.FmtText.nums
  induction l with
  | nil => rfl
  | cons b l ih => simp only [List.map_cons, ih]; simp
theorem enc_def (r : Int) : enc r = (Utf8.encode r).data.toList := rfl
theorem enc_nums (r : Nat) : Go.Extern.FmtText.nums (enc (r : Int)) = Lib.encodeRuneZ (r : Int) :=
  (congrArg Go.Extern.FmtText.nums (enc_def r)).trans (Go.Extern.FmtText.encode_eq r)
theorem enc_rune (r : Nat) : enc (r : Int) = Lib.encodeRune (r : Int) := by
  have h := enc_nums r
  generalize enc (r : Int) = l at h
  unfold Lib.encodeRune
  rw [← h, nums_back]
theorem decL_drop (s : List UInt8) (k : Nat) : Lib.decodeL (s.drop k) = dec s k := by
  rw [Lib.decodeL_N]
  unfold dec byt
  have e : ∀ j, (s.drop k).getD j 0 = s.getD (k + j) 0 := by
    intro j
    simp [List.getD_eq_getElem?_getD, List.getElem?_drop]
  simp only [e, List.length_drop, Nat.add_zero]
/-- a rune that stands in a text is encoded by the bytes that stand there -/
theorem enc_dec (s : List UInt8) (k : Nat) (h : k < s.length) (hv : ¬ ((dec s k).1 = 65533 ∧ (dec s k).2 = 1)) : enc ((dec s k).1 : Int) = (s.drop k).take (dec s k).2 := by
  rw [enc_rune, ← decL_drop]
  rw [← decL_drop] at hv
  exact Lib.encode_decode _ (by intro e; have := congrArg List.length e; rw [List.length_drop] at this; simp at this; omega) hv
theorem shape_hi (n b0 b1 b2 b3 : Nat) (h : 2 ≤ (Lib.decodeN n b0 b1 b2 b3).2) : 128 ≤ b0 ∧ 128 ≤ b1 ∧ ((Lib.decodeN n b0 b1 b2 b3).2 ≥ 3 → 128 ≤ b2) ∧ ((Lib.decodeN n b0 b1 b2 b3).2 ≥ 4 → 128 ≤ b3) ∧ (Lib.decodeN n b0 b1 b2 b3).2 ≤ 4 := by
  unfold Lib.decodeN at h ⊢
  grind
theorem flatB_append : ∀ a b : List UInt8, flatB (a ++ b) = flatB a ++ flatB b
  | [], _ => rfl
  | x :: a, b => by simp only [List.cons_append, flatB, flatB_append a b, List.append_assoc]
theorem flatB_hi : ∀ a : List UInt8, (∀ x ∈ a, 128 ≤ x.toNat) → flatB a = a
  | [], _ => rfl
  | x :: a, h => by
    have hx := h x (List.mem_cons_self ..)
    have : writB (x.toNat : Int) = [x] := by
      unfold writB
      rw [if_neg (by omega), if_neg (by omega), if_neg (by omega)]
      simp
    simp only [flatB, this, flatB_hi a fun y hy => h y (List.mem_cons_of_mem _ hy)]
    rfl
theorem take_hi (s : List UInt8) (k : Nat) (h : 2 ≤ (dec s k).2) (hl : (dec s k).2 ≤ s.length - k) : ∀ x ∈ (s.drop k).take (dec s k).2, 128 ≤ x.toNat := by
  have hs := shape_hi (s.length - k) (byt s k) (byt s (k + 1)) (byt s (k + 2)) (byt s (k + 3)) h
  obtain ⟨h0, h1, h2, h3, h4⟩ := hs
  have hd : Lib.decodeN (s.length - k) (byt s k) (byt s (k + 1)) (byt s (k + 2)) (byt s (k + 3)) = dec s k := rfl
  rw [hd] at h2 h3 h4
  intro x hx
  obtain ⟨j, hj, rfl⟩ := List.mem_iff_getElem.1 hx
  rw [List.length_take, List.length_drop] at hj
  have e : ((s.drop k).take (dec s k).2)[j].toNat = byt s (k + j) := by
    rw [List.getElem_take, List.getElem_drop]
    unfold byt
    simp [List.getD_eq_getElem?_getD, show k + j < s.length by omega]
  rw [e]
  have : j = 0 ∨ j = 1 ∨ j = 2 ∨ j = 3 := by omega
  rcases this with rfl | rfl | rfl | rfl
  · exact h0
  · exact h1
  · exact h2 (by omega)
  · exact h3 (by omega)
theorem enc_lo (n : Nat) (h : n < 128) : enc (n : Int) = [UInt8.ofNat n] := by
  rw [enc_rune]
  unfold Lib.encodeRune
  rw [Lib.encodeRuneZ_one (by omega) (by omega)]
  simp
theorem writ_lo (n : Nat) (h : n < 128) : writ (n : Int) = writB (n : Int) := by
  have e := enc_lo n h
  unfold writ writB
  rw [e]
  simp only [Int.toNat_natCast]
theorem writ_hi (n : Nat) (h : 128 ≤ n) : writ (n : Int) = enc (n : Int) := by
  unfold writ
  rw [if_neg (by omega), if_neg (by omega), if_neg (by omega)]
theorem flat_eq (s : List UInt8) : ∀ (m k : Nat), k ≤ s.length → s.length - k < m → (eachR s m k).1 = true → ((eachR s m k).2.2.map writ).flatten = flatB (s.drop k) := by
  intro m
  induction m with
  | zero => intro k _ hm; omega
  | succ m ih =>
    intro k hk hm ho
    by_cases hlt : k < s.length
    · by_cases hw : width s k = 0
      · simp only [eachR, if_pos hlt, if_pos hw] at ho; simp at ho
      · have e1 : eachR s (m + 1) k = ((eachR s m (k + (dec s k).2)).1, (eachR s m (k + (dec s k).2)).2.1, ((dec s k).1 : Int) :: (eachR s m (k + (dec s k).2)).2.2) := by simp only [eachR, if_pos hlt, if_neg hw]
        rw [e1] at ho ⊢
        simp only [List.map_cons, List.flatten_cons]
        have hsplit : s.drop k = (s.drop k).take (dec s k).2 ++ s.drop (k + (dec s k).2) := by
          rw [← List.drop_drop, List.take_append_drop]
        rcases dec_cases s k hlt with ⟨hb, hd, hw'⟩ | ⟨hb, hd, hw'⟩ | ⟨hb, h1, h2, h3, hw'⟩
        · have e2 : (dec s k).2 = 1 := by rw [hd]
          rw [ih (k + (dec s k).2) (by omega) (by omega) ho, hsplit, flatB_append]
          congr 1
          have e3 : (s.drop k).take (dec s k).2 = [s.getD k 0] := by
            have hc : s.drop k = s[k] :: s.drop (k + 1) := List.drop_eq_getElem_cons hlt
            rw [e2, hc]
            show [s[k]] = _
            simp [List.getD_eq_getElem?_getD, hlt]
          rw [e3, hd]
          show writ ((byt s k : Nat) : Int) = writB ((s.getD k 0).toNat : Int) ++ flatB []
          rw [writ_lo _ hb]
          simp [flatB, byt]
        · exact absurd hw' hw
        · rw [ih (k + (dec s k).2) (by omega) (by omega) ho]
          conv => rhs; rw [hsplit, flatB_append]
          congr 1
          rw [writ_hi _ h1, enc_dec s k hlt (by omega), flatB_hi _ (take_hi s k h2 h3)]
    · have e1 : eachR s (m + 1) k = (true, k, []) := by simp only [eachR, if_neg hlt]
      rw [e1, List.drop_eq_nil_of_le (by omega)]
      rfl
theorem quote_eq (s : List UInt8) (hs : s.length ≤ big) (ho : okR s = true) : quoteB s = quoteR s := by
  unfold big at hs
  have := flat_eq s FU 0 (Nat.zero_le _) (by unfold FU; omega) ho
  unfold quoteB quoteR runesR
  rw [this]
  rfl
theorem less_iff : ∀ s t : List UInt8, Op.bytesLess s t = decide (Lib.compareBytes s t < 0)
  | [], [] => rfl
  | _ :: _, [] => rfl
  | [], _ :: _ => rfl
  | a :: s, b :: t => by
    have ih := less_iff s t
    simp only [Op.bytesLess, Lib.compareBytes, ih]
    by_cases h1 : a < b
    · simp [h1]
    · by_cases h2 : b < a
      · have : ¬ a = b := by rintro rfl; exact h1 h2
        simp [h1, h2, this]
      · have : a = b := by
          apply UInt8.toNat_inj.1
          rw [UInt8.lt_iff_toNat_lt] at h1 h2
          omega
        subst this
        simp
def S25 : List PV → Tr PV := S21
theorem ok25 (W0 : World) : EKOk Tryd.prog W0 25 (.pure S21) := by
  refine pure_of (tyOk 0 [(50, .pure S50)]) (look_ok (all_cons (ok50 W0) all_nil)) mixed fn25 (lpsOk_no _ _) fun args r h => ?_
  unfold S21 at h
  split at h
  · rename_i k n s
    refine (run25 0 k n s).trans ?_
    rw [← h]
    simp only [Tr.val_ok, Tr.val_cnd, Tr.val_chk]
    cases rightR k n s <;> rfl
  · simp [Tr.val_no] at h
theorem ok27 (W0 : World) : EKOk Tryd.prog W0 27 (.pure S26) := by
  refine pure_of (tyOk 0 []) (look_ok all_nil) mixed fn27 (lpsOk_no _ _) fun args r h => ?_
  unfold S26 at h
  split at h
  · rename_i k n s l m t
    refine (run27 0 k n l m s t).trans ?_
    rw [← h]
    have z := cb_zero s t
    have rg := cb_range s t
    simp only [Tr.val_ok, Tr.val_cnd, less_iff, cnd_i, decide_eq_true_eq, Bool.and_eq_true, Bool.not_eq_true', decide_eq_false_iff_not, and_true]
    unfold vcmp cmpI
    grind
  · simp [Tr.val_no] at h
end Go.PS
end

section
namespace Go.PS
open Go.Proofs
theorem ek_mono {P : Program} {W0 : World} {f : Nat} {S S' : List PV → Tr PV} (h : EKOk P W0 f (.pure S)) (hm : ∀ args v, (S' args).val = some v → (S args).val = some v) : EKOk P W0 f (.pure S') :=
  ⟨h.enters, fun args v hv => h.calls args v (hm args v hv)⟩
def textV (k n : Int) (s : List UInt8) : List UInt8 := if rightR k n s = true then (if k = 1 then Lib.itoa n else quoteR s) else []
def rightE (k n : Int) (s : List UInt8) : Int := if rightR k n s = true then 0 else 2
def quoV (s : List UInt8) : List UInt8 := if okR s = true then quoteR s else []
def quoE (s : List UInt8) : Int := if okR s = true then 0 else 2
def S20u : List PV → Tr PV
  | [.d (.agg [.int .i64 k, .int .i64 n, .str s])] => .chk (decide (s.length ≤ big) && decide (-9223372036854775808 ≤ n) && decide (n ≤ 9223372036854775807)) (.ok (.tup [.d (.str (textV k n s)), .d (.int .i64 (rightE k n s))]))
  | _ => .no
def S21u : List PV → Tr PV
  | [.d (.agg [.int .i64 k, .int .i64 n, .str s])] => .chk (decide (s.length ≤ big)) (.ok (.d (.int .i64 (rightE k n s))))
  | _ => .no
def S23u : List PV → Tr PV
  | [.d (.str s)] => .chk (decide (s.length + 2 ≤ big)) (.ok (.tup [.d (.str (quoV s)), .d (.int .i64 (quoE s))]))
  | _ => .no
theorem ok20u (W0 : World) (hW : Laid W0) : EKOk Tryd.prog W0 20 (.pure S20u) := ek_mono (ok20 W0 hW) fun args v h => by
  unfold S20u at h
  split at h
  · rename_i k n s
    rw [← h]
    unfold S20 textV rightE
    simp only [Tr.val_ok, Tr.val_chk, Tr.val_cnd, cnd_i, decide_eq_true_eq]
    congr 1
    cases rightR k n s with
    | false => rfl
    | true => simp only [if_true]; split <;> rfl
  · simp [Tr.val_no] at h
theorem ok22u (W0 : World) : EKOk Tryd.prog W0 22 (.pure S20u) := ek_mono (ok22 W0) fun args v h => by
  unfold S20u at h
  split at h
  · rename_i k n s
    rw [← h]
    unfold S22 textV rightE
    simp only [Tr.val_chk, chk_some, Bool.and_eq_true, decide_eq_true_eq] at h
    obtain ⟨⟨h0, h1⟩, h2⟩ := h.1
    simp only [Tr.val_ok, Tr.val_chk, Tr.val_cnd, cnd_i, decide_eq_true_eq]
    congr 1
    cases hr : rightR k n s with
    | false => rfl
    | true =>
      simp only [if_true]
      by_cases c : k = 1
      · simp only [if_pos c]
      · simp only [if_neg c]
        have ho : okR s = true := by unfold rightR at hr; simp [c] at hr; exact hr.2
        rw [quote_eq s h0 ho]
  · simp [Tr.val_no] at h
theorem ok21u (W0 : World) (hW : Laid W0) : EKOk Tryd.prog W0 21 (.pure S21u) := ek_mono (ok21 W0 hW) fun args v h => by
  unfold S21u at h
  split at h
  · rename_i k n s
    rw [← h]
    unfold S21 rightE
    simp only [Tr.val_ok, Tr.val_chk, Tr.val_cnd]
    congr 1
    cases rightR k n s <;> rfl
  · simp [Tr.val_no] at h
theorem ok25u (W0 : World) : EKOk Tryd.prog W0 25 (.pure S21u) := ek_mono (ok25 W0) fun args v h => by
  unfold S21u at h
  split at h
  · rename_i k n s
    rw [← h]
    unfold S21 rightE
    simp only [Tr.val_ok, Tr.val_chk, Tr.val_cnd]
    congr 1
    cases rightR k n s <;> rfl
  · simp [Tr.val_no] at h
theorem ok23u (W0 : World) (hW : Laid W0) : EKOk Tryd.prog W0 23 (.pure S23u) := ek_mono (ok23 W0 hW) fun args v h => by
  unfold S23u at h
  split at h
  · rename_i s
    rw [← h]
    unfold S23 quoV quoE
    simp only [Tr.val_ok, Tr.val_chk, Tr.val_cnd]
    congr 1
    cases okR s <;> rfl
  · simp [Tr.val_no] at h
theorem ok24u (W0 : World) : EKOk Tryd.prog W0 24 (.pure S23u) := ek_mono (ok24 W0) fun args v h => by
  unfold S23u at h
  split at h
  · rename_i s
    rw [← h]
    simp only [Tr.val_chk, chk_some, decide_eq_true_eq] at h
    have h0 := h.1
    have h1 : s.length ≤ big := by omega
    unfold S24 quoV quoE
    simp only [Tr.val_ok, Tr.val_chk, Tr.val_cnd]
    rw [chk_p h0, chk_p h1]
    cases ho : okR s with
    | false => rfl
    | true => rw [cnd_tt, quote_eq s h1 ho]; rfl
  · simp [Tr.val_no] at h
def S7 : List PV → Tr PV
  | [.d (.agg [.int .i64 _, .int .i64 n, .str _]), .d (.agg [.int .i64 _, .int .i64 _, .str _])] => .chk (decide (-9223372036854775808 ≤ n) && decide (n ≤ 9223372036854775807)) (.ok (.d (.bool true)))
  | _ => .no
end Go.PS
end

section
namespace Go.PS
open Go.Proofs
/-- the number of numerals, behind a number -/
def dval : List UInt8 → Nat → Nat
  | [], acc => acc
  | c :: r, acc => dval r (acc * 10 + (c.toNat - 48))
theorem dval_ge (l : List UInt8) : ∀ (acc : Nat), acc ≤ dval l acc := by
  induction l with
  | nil => intro acc; exact Nat.le_refl _
  | cons c r ih => intro acc; have := ih (acc * 10 + (c.toNat - 48)); simp only [dval]; omega
theorem dval_snoc (d : UInt8) (l : List UInt8) : ∀ (acc : Nat), dval (l ++ [d]) acc = dval l acc * 10 + (d.toNat - 48) := by
  induction l with
  | nil => intro acc; simp only [List.nil_append, dval]
  | cons c r ih => intro acc; simp only [List.cons_append, dval]; exact ih _
theorem parse_dval : ∀ (l : List UInt8) (acc u : Nat), Lib.parseUint10 acc l = .ok u → u = dval l acc ∧ allDig l
  | [], acc, u, h => by simp only [Lib.parseUint10] at h; injection h with h; exact ⟨h.symm, fun c hc => by simp at hc⟩
  | c :: r, acc, u, h => by
    simp only [Lib.parseUint10] at h
    split at h
    · rename_i hc
      split at h
      · cases h
      · split at h
        · cases h
        · obtain ⟨h1, h2⟩ := parse_dval r _ u h
          refine ⟨h1, fun x hx => ?_⟩
          rcases List.mem_cons.1 hx with rfl | hx
          · exact hc
          · exact h2 x hx
    · cases h
theorem dval_parse : ∀ (l : List UInt8) (acc : Nat), allDig l → dval l acc < 18446744073709551616 → Lib.parseUint10 acc l = .ok (dval l acc)
  | [], _, _, _ => rfl
  | c :: r, acc, hd, h => by
    have hc := hd c (List.mem_cons_self ..)
    have hge := dval_ge r (acc * 10 + (c.toNat - 48))
    simp only [dval] at h ⊢
    simp only [Lib.parseUint10, if_pos hc]
    rw [if_neg (by omega), if_neg (by omega)]
    exact dval_parse r _ (fun x hx => hd x (List.mem_cons_of_mem _ hx)) h
theorem dig_byte (d : Nat) (h : d < 10) : (UInt8.ofNat (48 + d)).toNat = 48 + d := by rw [UInt8.toNat_ofNat']; omega
theorem dec_val : ∀ (n u : Nat), u < n → dval (Lib.decDigits u) 0 = u := by
  intro n
  induction n with
  | zero => intro u h; omega
  | succ n ih =>
    intro u h
    rw [decD]
    split
    · rename_i hu
      simp only [dval, dig_byte u hu]; omega
    · rename_i hu
      rw [dval_snoc, ih (u / 10) (by omega), dig_byte _ (by omega)]; omega
theorem dec_first : ∀ (n u : Nat), u < n → ∃ c r, Lib.decDigits u = c :: r ∧ allDig (c :: r) ∧ (c.toNat = 48 → u = 0 ∧ r = []) := by
  intro n
  induction n with
  | zero => intro u h; omega
  | succ n ih =>
    intro u h
    rw [decD]
    split
    · rename_i hu
      refine ⟨_, [], rfl, ?_, ?_⟩
      · intro c hc
        rw [List.mem_singleton] at hc
        rw [hc, dig_byte u hu]; omega
      · rw [dig_byte u hu]; intro h; exact ⟨by omega, rfl⟩
    · rename_i hu
      obtain ⟨c, r, h1, h2, h3⟩ := ih (u / 10) (by omega)
      refine ⟨c, r ++ [UInt8.ofNat (48 + u % 10)], by rw [h1]; rfl, ?_, ?_⟩
      · intro x hx
        rcases List.mem_cons.1 hx with rfl | hx
        · exact h2 _ (List.mem_cons_self ..)
        · rcases List.mem_append.1 hx with hx | hx
          · exact h2 _ (List.mem_cons_of_mem _ hx)
          · rw [List.mem_singleton] at hx
            rw [hx, dig_byte _ (by omega)]; omega
      · intro hc; have := (h3 hc).1; omega
theorem dval_pos (c : UInt8) (r : List UInt8) (hc : 49 ≤ c.toNat) (acc : Nat) : 1 ≤ dval (c :: r) acc := by
  have := dval_ge r (acc * 10 + (c.toNat - 48))
  simp only [dval]; omega
theorem dec_dval : ∀ (n : Nat) (c : UInt8) (r : List UInt8), r.length < n → allDig (c :: r) → (c.toNat = 48 → r = []) → Lib.decDigits (dval (c :: r) 0) = c :: r := by
  intro n
  induction n with
  | zero => intro c r h; omega
  | succ n ih =>
    intro c r hl hd h0
    rcases List.eq_nil_or_concat r with rfl | ⟨r', d, rfl⟩
    · have hc := hd c (List.mem_cons_self ..)
      have e : dval [c] 0 = c.toNat - 48 := by simp only [dval]; omega
      rw [e, decD, if_pos (by omega)]
      congr 1
      apply UInt8.toNat_inj.1
      rw [dig_byte _ (by omega)]; omega
    · have hc := hd c (List.mem_cons_self ..)
      have hdd := hd d (by simp)
      have hc49 : 49 ≤ c.toNat := by
        rcases Nat.lt_or_ge c.toNat 49 with h | h
        · have := h0 (by omega); simp at this
        · exact h
      have e : c :: (r' ++ [d]) = (c :: r') ++ [d] := rfl
      have hp := dval_pos c r' hc49 0
      rw [List.concat_eq_append, e, dval_snoc, decD, if_neg (by omega)]
      have e1 : (dval (c :: r') 0 * 10 + (d.toNat - 48)) / 10 = dval (c :: r') 0 := by omega
      have e2 : (dval (c :: r') 0 * 10 + (d.toNat - 48)) % 10 = d.toNat - 48 := by omega
      rw [e1, e2, ih c r' (by simp at hl; omega) (fun x hx => hd x (by
        rcases List.mem_cons.1 hx with rfl | hx
        · exact List.mem_cons_self ..
        · simp [hx])) (by intro h; omega)]
      congr 2
      apply UInt8.toNat_inj.1
      rw [dig_byte _ (by omega)]; omega
theorem digTo_all (s : List UInt8) : ∀ (m k : Nat), k ≤ s.length → s.length - k < m → allDig (s.drop k) → digTo s m k = s.length := by
  intro m
  induction m with
  | zero => intro k _ h; omega
  | succ m ih =>
    intro k hk hm hd
    by_cases hl : k < s.length
    · rw [drop_cons s k hl] at hd
      have hc := hd _ (List.mem_cons_self ..)
      have hck := chr_k s k
      have hcond : (k : Int) < s.length ∧ isDigit (chr s k) = true := ⟨by omega, (isDigit_iff _).2 (by omega)⟩
      simp only [digTo, if_pos hcond]
      exact ih (k + 1) (by omega) (by omega) fun x hx => hd x (List.mem_cons_of_mem _ hx)
    · have hcond : ¬ ((k : Int) < s.length ∧ isDigit (chr s k) = true) := by omega
      simp only [digTo, if_neg hcond]; omega

/-- what is written of a number is read as it -/
theorem parse_itoa (n : Int) (h0 : -9223372036854775808 ≤ n) (h1 : n ≤ 9223372036854775807) :
    (parseR (Lib.itoa n)).kind = 1 ∧ (parseR (Lib.itoa n)).n = n ∧ (parseR (Lib.itoa n)).txt = [] ∧ (parseR (Lib.itoa n)).pos = ((Lib.itoa n).length : Int) ∧ (parseR (Lib.itoa n)).err = 0 := by
  have hlen := itoa_len20 n (by omega)
  by_cases hn : n < 0
  · obtain ⟨c, r, e, hd, hz⟩ := dec_first (n.natAbs + 1) n.natAbs (by omega)
    have hv := dec_val (n.natAbs + 1) n.natAbs (by omega)
    have es : Lib.itoa n = 45 :: c :: r := by unfold Lib.itoa; rw [if_pos hn, e]
    rw [e] at hv
    rw [es] at hlen ⊢
    have hc := hd c (List.mem_cons_self ..)
    have hcz : ¬ c.toNat = 48 := fun h => by have := (hz h).1; omega
    have c0 : chr (45 :: c :: r) 0 = 45 := rfl
    have c1 : chr (45 :: c :: r) 1 = (c.toNat : Int) := rfl
    have hA : numAt (45 :: c :: r) = 1 := by unfold numAt; rw [if_pos c0]
    have hD : digTo (45 :: c :: r) FU (1 + 1) = ((45 :: c :: r).length : Int) := digTo_all (45 :: c :: r) FU 2 (by simp) (by unfold FU; simp at hlen ⊢; omega) (fun x hx => hd x (List.mem_cons_of_mem _ (by simpa using hx)))
    have hq : Lib.atoiAll (45 :: c :: r) = .ok n := by
      unfold Lib.atoiAll
      have m : Lib.parseMag (c :: r) = .ok n.natAbs := by
        unfold Lib.parseMag
        rw [if_neg (by simp), dval_parse _ _ hd (by rw [hv]; omega), hv]
      have e45 : (45 : UInt8).toNat = 45 := rfl
      simp only [e45, or_true, if_true, m, not_true_eq_false, false_and, if_false, true_and]
      rw [if_neg (by omega)]
      congr 1; omega
    have hok : atoiOk (45 :: c :: r) = true := by unfold atoiOk; rw [hq]
    have hav : atoiV (45 :: c :: r) = n := by unfold atoiV; rw [hq]
    have hN : ¬ (¬ ((1 : Int) < ((45 :: c :: r).length : Int) ∧ isDigit (chr (45 :: c :: r) 1) = true) ∨ (chr (45 :: c :: r) 1 = 48 ∧ (1 : Int) = 1)) := by
      rw [c1]
      have : isDigit (c.toNat : Int) = true := (isDigit_iff _).2 (by omega)
      rintro (h | h)
      · exact h ⟨by simp; omega, this⟩
      · omega
    have hR : parseR (45 :: c :: r) = ⟨1, n, [], ((45 :: c :: r).length : Int), 0, ((45 :: c :: r).length : Int), false⟩ := by
      unfold parseR
      rw [if_neg (by simp), if_neg (by rw [c0]; decide), if_pos (Or.inl c0)]
      unfold numR
      rw [hA, if_neg hN, if_neg (by rw [c1]; omega), hD, if_neg (by omega), if_pos hok, hav]
    rw [hR]
    exact ⟨rfl, rfl, rfl, rfl, rfl⟩
  · obtain ⟨c, r, e, hd, hz⟩ := dec_first (n.toNat + 1) n.toNat (by omega)
    have hv := dec_val (n.toNat + 1) n.toNat (by omega)
    have es : Lib.itoa n = c :: r := by unfold Lib.itoa; rw [if_neg hn, e]
    rw [e] at hv
    rw [es] at hlen ⊢
    have hc := hd c (List.mem_cons_self ..)
    have c0 : chr (c :: r) 0 = (c.toNat : Int) := rfl
    have hA : numAt (c :: r) = 0 := by unfold numAt; rw [c0, if_neg (by omega)]
    have hdg : isDigit (chr (c :: r) 0) = true := by rw [c0]; exact (isDigit_iff _).2 (by omega)
    have hN : ¬ (¬ ((0 : Int) < ((c :: r).length : Int) ∧ isDigit (chr (c :: r) 0) = true) ∨ (chr (c :: r) 0 = 48 ∧ (0 : Int) = 1)) := by
      rintro (h | h)
      · exact h ⟨by simp only [List.length_cons]; omega, hdg⟩
      · omega
    have hP : parseR (c :: r) = numR (c :: r) := by
      unfold parseR
      rw [if_neg (by simp), if_neg (by rw [c0]; omega), if_pos (Or.inr hdg)]
    rw [hP]
    unfold numR
    rw [hA, if_neg hN]
    by_cases z : c.toNat = 48
    · obtain ⟨z1, rfl⟩ := hz z
      rw [if_pos (by rw [c0]; omega), if_neg (by simp)]
      exact ⟨rfl, by show (0 : Int) = n; omega, rfl, rfl, rfl⟩
    · have hD : digTo (c :: r) FU (0 + 1) = ((c :: r).length : Int) := digTo_all (c :: r) FU 1 (by simp) (by unfold FU; simp at hlen ⊢; omega) (fun x hx => hd x (List.mem_cons_of_mem _ (by simpa using hx)))
      have hq : Lib.atoiAll (c :: r) = .ok n := by
        unfold Lib.atoiAll
        have m : Lib.parseMag (c :: r) = .ok n.toNat := by
          unfold Lib.parseMag
          rw [if_neg (by simp), dval_parse _ _ hd (by rw [hv]; omega), hv]
        have n43 : ¬ c.toNat = 43 := by omega
        have n45 : ¬ c.toNat = 45 := by omega
        simp only [n43, n45, or_self, m, not_false_eq_true, true_and, false_and, if_false]
        rw [if_neg (by omega)]
        congr 1; omega
      have hok : atoiOk (c :: r) = true := by unfold atoiOk; rw [hq]
      have hav : atoiV (c :: r) = n := by unfold atoiV; rw [hq]
      rw [if_neg (by rw [c0]; omega), hD, if_neg (by omega), if_pos hok, hav]
      exact ⟨rfl, rfl, rfl, rfl, rfl⟩
end Go.PS
end

section
namespace Go.PS
open Go.Proofs
theorem chr_at {s : List UInt8} {n : Nat} {c : UInt8} {t : List UInt8} (h : s.drop n = c :: t) : chr s (n : Int) = (c.toNat : Int) ∧ n < s.length ∧ s.drop (n + 1) = t := by
  have hl : n < s.length := by
    rcases Nat.lt_or_ge n s.length with h1 | h1
    · exact h1
    · rw [List.drop_eq_nil_of_le h1] at h; cases h
  rw [drop_cons s n hl] at h
  injection h with h1 h2
  exact ⟨by rw [chr_k, h1], hl, h2⟩
theorem byt_at {s : List UInt8} {n : Nat} {l : List UInt8} (h : s.drop n = l) (j : Nat) : byt s (n + j) = (l.getD j 0).toNat := by
  subst h
  unfold byt
  congr 1
  simp [List.getD_eq_getElem?_getD, List.getElem?_drop]
theorem decN_ext (n n' b0 b1 b2 b3 c1 c2 c3 : Nat) (h : 2 ≤ (Lib.decodeN n b0 b1 b2 b3).2) (hn : (Lib.decodeN n b0 b1 b2 b3).2 ≤ n') (h1 : c1 = b1) (h2 : 3 ≤ (Lib.decodeN n b0 b1 b2 b3).2 → c2 = b2) (h3 : 4 ≤ (Lib.decodeN n b0 b1 b2 b3).2 → c3 = b3) :
    Lib.decodeN n' b0 c1 c2 c3 = Lib.decodeN n b0 b1 b2 b3 := by
  subst h1
  unfold Lib.decodeN at h hn h2 h3 ⊢
  grind
/-- a rune of more bytes is read the same wherever its bytes stand -/
theorem dec_ext {q s rest : List UInt8} {p k : Nat} (h : 2 ≤ (dec q p).2) (hq : (dec q p).2 ≤ q.length - p) (hs : s.drop k = (q.drop p).take (dec q p).2 ++ rest) : dec s k = dec q p := by
  have hlen : (dec q p).2 ≤ s.length - k := by
    have := congrArg List.length hs
    rw [List.length_append, List.length_take, List.length_drop, List.length_drop] at this
    omega
  have hb : ∀ j, j < (dec q p).2 → byt s (k + j) = byt q (p + j) := by
    intro j hj
    rw [byt_at hs j, byt_at (rfl : q.drop p = q.drop p) j]
    congr 1
    simp only [List.getD_eq_getElem?_getD]
    rw [List.getElem?_append_left (by rw [List.length_take, List.length_drop]; omega), List.getElem?_take, if_pos hj]
  have e0 := hb 0 (by omega)
  have := decN_ext (q.length - p) (s.length - k) (byt q p) (byt q (p + 1)) (byt q (p + 2)) (byt q (p + 3)) (byt s (k + 1)) (byt s (k + 2)) (byt s (k + 3)) h hlen (hb 1 (by exact h)) (fun h3 => hb 2 h3) (fun h4 => hb 3 h4)
  show Lib.decodeN (s.length - k) (byt s k) (byt s (k + 1)) (byt s (k + 2)) (byt s (k + 3)) = _
  rw [show byt s k = byt q p from e0]
  exact this
set_option maxRecDepth 100000 in
theorem hex_facts : ∀ n : Fin 128, (n.val < 32 ∨ n.val = 127) → high ((hexDig ((n.val : Int) / 16)).toNat : Int) = true ∧ low ((hexDig ((n.val : Int) / 16)).toNat : Int) = (n.val : Int) / 16 ∧ low ((hexDig ((n.val : Int) % 16)).toNat : Int) = (n.val : Int) % 16 := by decide
set_option maxRecDepth 100000 in
theorem low_back : ∀ n : Fin 256, 0 ≤ low (n.val : Int) → (hexDig (low (n.val : Int))).toNat = n.val := by decide
/-- a byte that is written with an escape is read back -/
theorem esc_fwd {s rest : List UInt8} {n b : Nat} (hb : b < 128) (hc : b = 34 ∨ b = 92 ∨ b < 32 ∨ b = 127) (h : s.drop n = (writB (b : Int)).drop 1 ++ rest) : escV s (n : Int) = (b : Int) ∧ ∃ e : Nat, escTo s (n : Int) = (e : Int) ∧ s.drop e = rest := by
  unfold writB at h
  by_cases c1 : b = 34
  · subst c1
    obtain ⟨k1, k2, k3⟩ := chr_at (c := 34) (t := rest) h
    have k1 : chr s (n : Int) = 34 := k1
    refine ⟨?_, n + 1, ?_, k3⟩
    · unfold escV; rw [if_pos (by omega), if_pos k1]; rfl
    · unfold escTo; rw [if_pos (by omega), if_pos k1]; rfl
  by_cases c2 : b = 92
  · subst c2
    obtain ⟨k1, k2, k3⟩ := chr_at (c := 92) (t := rest) h
    have k1 : chr s (n : Int) = 92 := k1
    refine ⟨?_, n + 1, ?_, k3⟩
    · unfold escV; rw [if_pos (by omega), if_neg (by omega), if_pos k1]; rfl
    · unfold escTo; rw [if_pos (by omega), if_neg (by omega), if_pos k1]; rfl
  rw [if_neg (by omega)] at h
  by_cases c3 : b = 10
  · subst c3
    obtain ⟨k1, k2, k3⟩ := chr_at (c := 110) (t := rest) h
    have k1 : chr s (n : Int) = 110 := k1
    refine ⟨?_, n + 1, ?_, k3⟩
    · unfold escV; rw [if_pos (by omega), if_neg (by omega), if_neg (by omega), if_pos k1]; rfl
    · unfold escTo; rw [if_pos (by omega), if_neg (by omega), if_neg (by omega), if_pos k1]; rfl
  rw [if_neg (by omega), if_pos (by omega)] at h
  obtain ⟨k1, k2, k3⟩ := chr_at (c := 120) (t := hexDig ((b : Int) / 16) :: hexDig ((b : Int) % 16) :: rest) h
  have k1 : chr s (n : Int) = 120 := k1
  obtain ⟨m1, m2, m3⟩ := chr_at k3
  obtain ⟨l1, l2, l3⟩ := chr_at m3
  obtain ⟨f1, f2, f3⟩ := hex_facts ⟨b, hb⟩ (by show b < 32 ∨ b = 127; omega)
  dsimp only at f1 f2 f3
  have p1 : chr s ((n : Int) + 1) = ((hexDig ((b : Int) / 16)).toNat : Int) := m1
  have p2 : chr s ((n : Int) + 1 + 1) = ((hexDig ((b : Int) % 16)).toNat : Int) := l1
  have g1 : hex1 s ((n : Int) + 1) = true := by unfold hex1; rw [p1, f1]; simp; omega
  have g2 : hex2 s ((n : Int) + 1) = true := by unfold hex2; rw [p2, f3]; simp; omega
  have g3 : hexB s ((n : Int) + 1) = (b : Int) := by unfold hexB; rw [p1, p2, f2, f3]; omega
  have g4 : ¬ escBad (b : Int) = true := by unfold escBad; simp; omega
  refine ⟨?_, n + 1 + 1 + 1, ?_, l3⟩
  · unfold escV hexV
    rw [if_pos (by omega), if_neg (by omega), if_neg (by omega), if_neg (by omega), if_pos k1, if_pos g1, if_pos g2, g3, if_neg g4]
  · unfold escTo hexTo
    rw [if_pos (by omega), if_neg (by omega), if_neg (by omega), if_neg (by omega), if_pos k1, if_pos g1, if_pos g2, g3, if_neg g4]
    omega
/-- an escape that is read was written so -/
theorem esc_bwd {s : List UInt8} {n : Nat} (h : 0 ≤ escV s (n : Int)) : ∃ b e : Nat, b < 128 ∧ escV s (n : Int) = (b : Int) ∧ (b = 34 ∨ b = 92 ∨ b < 32 ∨ b = 127) ∧ escTo s (n : Int) = (e : Int) ∧ n + 1 ≤ e ∧ e ≤ s.length ∧ s.drop n = (writB (b : Int)).drop 1 ++ s.drop e := by
  by_cases hn : n < s.length
  · have hd := drop_cons s n hn
    have hk := chr_k s n
    have hi : (n : Int) < s.length := by omega
    have hu := (s.getD n 0).toNat_lt
    unfold escV at h ⊢
    unfold escTo
    rw [if_pos hi] at h ⊢
    rw [if_pos hi]
    have eqb : ∀ c : UInt8, chr s (n : Int) = (c.toNat : Int) → s.getD n 0 = c := by
      intro c hc
      rw [hk] at hc
      exact UInt8.toNat_inj.1 (by omega)
    by_cases c1 : chr s (n : Int) = 34
    · rw [if_pos c1, if_pos c1]
      exact ⟨34, n + 1, by omega, rfl, by omega, rfl, by omega, by omega, by rw [hd, eqb 34 c1]; rfl⟩
    · rw [if_neg c1] at h ⊢
      rw [if_neg c1]
      by_cases c2 : chr s (n : Int) = 92
      · rw [if_pos c2, if_pos c2]
        exact ⟨92, n + 1, by omega, rfl, by omega, rfl, by omega, by omega, by rw [hd, eqb 92 c2]; rfl⟩
      · rw [if_neg c2] at h ⊢
        rw [if_neg c2]
        by_cases c3 : chr s (n : Int) = 110
        · rw [if_pos c3, if_pos c3]
          exact ⟨10, n + 1, by omega, rfl, by omega, rfl, by omega, by omega, by rw [hd, eqb 110 c3]; rfl⟩
        · rw [if_neg c3] at h ⊢
          rw [if_neg c3]
          by_cases c4 : chr s (n : Int) = 120
          · rw [if_pos c4] at h ⊢
            rw [if_pos c4]
            unfold hexV at h ⊢
            unfold hexTo
            by_cases g1 : hex1 s ((n : Int) + 1) = true
            · rw [if_pos g1] at h ⊢
              rw [if_pos g1]
              by_cases g2 : hex2 s ((n : Int) + 1) = true
              · rw [if_pos g2] at h ⊢
                rw [if_pos g2]
                by_cases g3 : escBad (hexB s ((n : Int) + 1)) = true
                · rw [if_pos g3] at h; omega
                · rw [if_neg g3, if_neg g3]
                  unfold hex1 at g1
                  unfold hex2 at g2
                  simp only [Bool.and_eq_true, decide_eq_true_eq] at g1 g2
                  obtain ⟨i1, i2⟩ := g1
                  obtain ⟨i3, i4⟩ := g2
                  have e1 : ((n + 1 : Nat) : Int) = (n : Int) + 1 := by omega
                  have e2 : ((n + 1 + 1 : Nat) : Int) = (n : Int) + 1 + 1 := by omega
                  have k1 := chr_k s (n + 1)
                  have k2 := chr_k s (n + 1 + 1)
                  rw [e1] at k1
                  rw [e2] at k2
                  have u1 := (s.getD (n + 1) 0).toNat_lt
                  have u2 := (s.getD (n + 1 + 1) 0).toNat_lt
                  have hl1 : 0 ≤ low (chr s ((n : Int) + 1)) ∧ low (chr s ((n : Int) + 1)) ≤ 7 := by
                    unfold high at i2
                    simp only [Bool.or_eq_true, decide_eq_true_eq] at i2
                    rcases i2 with (i2 | i2) | i2 <;> rw [i2] <;> decide
                  have hl2 := low_range (chr s ((n : Int) + 1 + 1))
                  have b1 := low_back ⟨(s.getD (n + 1) 0).toNat, u1⟩
                  have b2 := low_back ⟨(s.getD (n + 1 + 1) 0).toNat, u2⟩
                  dsimp only at b1 b2
                  rw [← k1] at b1
                  rw [← k2] at b2
                  have b1 := UInt8.toNat_inj.1 (b1 hl1.1)
                  have b2 := UInt8.toNat_inj.1 (b2 i4)
                  obtain ⟨v, hv⟩ := Int.eq_ofNat_of_zero_le (show 0 ≤ hexB s ((n : Int) + 1) by unfold hexB; omega)
                  have hB := hv
                  unfold hexB at hB
                  unfold escBad at g3
                  simp only [Bool.or_eq_true, Bool.and_eq_true, decide_eq_true_eq, not_or, not_and] at g3
                  rw [hv] at g3
                  have v10 : ¬ (v : Int) = 10 := g3.1
                  have v32 : (v : Int) < 32 ∨ (v : Int) = 127 := by
                    rcases Int.lt_or_le (v : Int) 32 with h | h
                    · exact .inl h
                    · have := g3.2 h; omega
                  have hw : writB (v : Int) = [92, 120, hexDig ((v : Int) / 16), hexDig ((v : Int) % 16)] := by
                    unfold writB
                    rw [if_neg (by omega), if_neg v10, if_pos v32]
                  have d1 : (v : Int) / 16 = low (chr s ((n : Int) + 1)) := by omega
                  have d2 : (v : Int) % 16 = low (chr s ((n : Int) + 1 + 1)) := by omega
                  refine ⟨v, n + 3, by omega, hv, by omega, by omega, by omega, by omega, ?_⟩
                  rw [hw, d1, d2, b1, b2, hd, eqb 120 c4, drop_cons s (n + 1) (by omega), drop_cons s (n + 1 + 1) (by omega)]
                  rfl
              · rw [if_neg g2] at h; omega
            · rw [if_neg g1] at h; omega
          · rw [if_neg c4] at h; omega
  · unfold escV at h; rw [if_neg (by omega)] at h; omega
end Go.PS
end

section
namespace Go.PS
open Go.Proofs
/-- texts whose runes all stand -/
inductive Val8 : List UInt8 → Prop
  | nil : Val8 []
  | one (c : UInt8) (t : List UInt8) (h : c.toNat < 128) (v : Val8 t) : Val8 (c :: t)
  | more (q : List UInt8) (p : Nat) (t : List UInt8) (h : 2 ≤ (dec q p).2) (hq : (dec q p).2 ≤ q.length - p) (hc : 128 ≤ (dec q p).1) (v : Val8 t) : Val8 ((q.drop p).take (dec q p).2 ++ t)
theorem width_dec {s : List UInt8} {k : Nat} (hk : k < s.length) (h : 2 ≤ (dec s k).2) : width s k = ((dec s k).2 : Int) := by
  rcases dec_cases s k hk with ⟨_, hd, _⟩ | ⟨_, hd, _⟩ | ⟨_, _, _, _, hw⟩
  · rw [hd] at h; simp at h
  · rw [hd] at h; simp at h
  · exact hw
theorem val_each {u : List UInt8} (v : Val8 u) : ∀ (s : List UInt8) (k m : Nat), s.drop k = u → k ≤ s.length → u.length < m → (eachR s m k).1 = true := by
  induction v with
  | nil =>
    intro s k m h hk hm
    obtain ⟨m, rfl⟩ : ∃ q, m = q + 1 := ⟨m - 1, by simp at hm; omega⟩
    have : ¬ k < s.length := by
      intro hl
      have := congrArg List.length h
      rw [List.length_drop] at this; simp at this; omega
    simp only [eachR, if_neg this]
  | one c t hc v ih =>
    intro s k m h hk hm
    obtain ⟨m, rfl⟩ : ∃ q, m = q + 1 := ⟨m - 1, by simp at hm; omega⟩
    obtain ⟨h1, h2, h3⟩ := chr_at h
    have hb : byt s k = c.toNat := byt_at h 0
    have hd : dec s k = (byt s k, 1) ∧ width s k = 1 := by
      rcases dec_cases s k h2 with ⟨_, hd, hw⟩ | ⟨h, _, _⟩ | ⟨h, _⟩
      · exact ⟨hd, hw⟩
      · omega
      · omega
    simp only [eachR, if_pos h2, hd.2, if_neg (show ¬ (1 : Int) = 0 by decide), hd.1]
    exact ih s (k + 1) m h3 (by omega) (by simp at hm; omega)
  | more q p t h2 hq hc v ih =>
    intro s k m h hk hm
    obtain ⟨m, rfl⟩ : ∃ q, m = q + 1 := ⟨m - 1, by omega⟩
    have hlen := congrArg List.length h
    rw [List.length_append, List.length_take, List.length_drop, List.length_drop] at hlen
    rw [List.length_append, List.length_take, List.length_drop] at hm
    have hd := dec_ext h2 hq h
    have hlt : k < s.length := by omega
    have hw := width_dec hlt (by rw [hd]; exact h2)
    simp only [eachR, if_pos hlt, if_neg (show ¬ width s k = 0 by rw [hw, hd]; omega)]
    refine ih s (k + (dec s k).2) m ?_ (by rw [hd]; omega) (by omega)
    rw [← List.drop_drop, h, hd, List.drop_append]
    rw [List.drop_of_length_le (by rw [List.length_take, List.length_drop]; omega)]
    rw [List.length_take, List.length_drop, show (dec q p).2 - min (dec q p).2 (q.length - p) = 0 by omega]
    rfl
theorem val_ok {u : List UInt8} (v : Val8 u) (h : u.length ≤ big) : okR u = true := by
  unfold okR
  exact val_each v u 0 FU rfl (Nat.zero_le _) (by unfold big at h; unfold FU; omega)

/-- what a reader of a text takes is what was written -/
theorem text_bwd (q : List UInt8) : ∀ (m k : Nat) (out : List UInt8), k ≤ q.length → (textGo q m k out).err = 0 →
    ∃ u, q.drop k = flatB u ++ [34] ∧ (textGo q m k out).txt = out ++ u ∧ (textGo q m k out).pos = q.length ∧ (textGo q m k out).kind = 2 ∧ (textGo q m k out).n = 0 ∧ (out ++ u).length ≤ 40 ∧ Val8 u := by
  intro m
  induction m with
  | zero => intro k out _ h; simp [textGo] at h
  | succ m ih =>
    intro k out hk he
    by_cases hl : k < q.length
    · have hi : (k : Int) < q.length := by omega
      have hd := drop_cons q k hl
      have hck := chr_k q k
      have hu := (q.getD k 0).toNat_lt
      have eqb : ∀ c : UInt8, chr q (k : Int) = (c.toNat : Int) → q.getD k 0 = c := by
        intro c hc
        rw [hck] at hc
        exact UInt8.toNat_inj.1 (by omega)
      simp only [textGo, if_pos hi] at he ⊢
      by_cases c1 : chr q (k : Int) = 34
      · simp only [if_pos c1] at he ⊢
        by_cases g : (k : Int) + 1 < q.length
        · simp only [if_pos g] at he; simp at he
        · simp only [if_neg g] at he ⊢
          by_cases g2 : 40 < out.length
          · simp only [if_pos g2] at he; simp at he
          · simp only [if_neg g2]
            refine ⟨[], ?_, by simp, by show (k : Int) + 1 = _; omega, by simp, by simp, by simp; omega, .nil⟩
            rw [hd, eqb 34 c1, List.drop_eq_nil_of_le (by omega)]; rfl
      · simp only [if_neg c1] at he ⊢
        by_cases c2 : chr q (k : Int) = 92
        · simp only [if_pos c2] at he ⊢
          by_cases g : escV q ((k : Int) + 1) < 0
          · simp only [if_pos g] at he
            unfold failE at he
            split at he <;> simp at he
          · simp only [if_neg g] at he ⊢
            have e1 : ((k + 1 : Nat) : Int) = (k : Int) + 1 := by omega
            have hb := esc_bwd (s := q) (n := k + 1) (by rw [e1]; omega)
            rw [e1] at hb
            obtain ⟨b, e, b1, b2, b3, b4, b5, b6, b7⟩ := hb
            rw [b2, b4] at he ⊢
            obtain ⟨u, u1, u2, u3, u4, u5, u6, u7⟩ := ih e _ b6 he
            have hbt : (UInt8.ofNat (b : Int).toNat).toNat = b := by rw [UInt8.toNat_ofNat', Int.toNat_natCast]; omega
            refine ⟨UInt8.ofNat (b : Int).toNat :: u, ?_, by rw [u2]; simp, u3, u4, u5, by simp at u6 ⊢; omega, .one _ _ (by rw [hbt]; exact b1) u7⟩
            have hw : writB (b : Int) = 92 :: (writB (b : Int)).drop 1 := by
              unfold writB
              by_cases x1 : (b : Int) = 34 ∨ (b : Int) = 92
              · rw [if_pos x1]; rfl
              · rw [if_neg x1]
                by_cases x2 : (b : Int) = 10
                · rw [if_pos x2]; rfl
                · rw [if_neg x2, if_pos (by omega)]; rfl
            rw [hd, eqb 92 c2, b7, u1]
            simp only [flatB, hbt]
            conv => rhs; rw [hw]
            simp
        · simp only [if_neg c2] at he ⊢
          by_cases g : width q (k : Int) = 0 ∨ chr q (k : Int) < 32 ∨ chr q (k : Int) = 127
          · simp only [if_pos g] at he; simp at he
          · simp only [if_neg g] at he ⊢
            rcases dec_cases q k hl with ⟨hb, hdc, hw⟩ | ⟨hb, hdc, hw⟩ | ⟨hb, h1, h2, h3, hw⟩
            · rw [hw] at he ⊢
              have e1 : (k : Int) + 1 = ((k + 1 : Nat) : Int) := by omega
              rw [e1] at he ⊢
              obtain ⟨u, u1, u2, u3, u4, u5, u6, u7⟩ := ih (k + 1) _ (by omega) he
              have et : (q.drop ((k : Int)).toNat).take (1 : Int).toNat = [q.getD k 0] := by
                rw [Int.toNat_natCast, hd]; rfl
              rw [et] at u2 u3 u4 u5 u6
              have hbb : (q.getD k 0).toNat < 128 := hb
              refine ⟨q.getD k 0 :: u, ?_, by rw [et, u2]; simp, by rw [et]; exact u3, by rw [et]; exact u4, by rw [et]; exact u5, by simp at u6 ⊢; omega, .one _ _ hbb u7⟩
              have hwb : writB ((q.getD k 0).toNat : Int) = [q.getD k 0] := by
                unfold writB
                rw [hck] at c1 c2 g
                rw [if_neg (by omega), if_neg (by omega), if_neg (by omega)]; simp
              rw [hd, u1]
              simp only [flatB, hwb, List.cons_append, List.nil_append]
            · exact absurd (Or.inl hw) g
            · rw [hw] at he ⊢
              have e1 : (k : Int) + ((dec q k).2 : Int) = ((k + (dec q k).2 : Nat) : Int) := by omega
              rw [e1] at he ⊢
              obtain ⟨u, u1, u2, u3, u4, u5, u6, u7⟩ := ih (k + (dec q k).2) _ (by omega) he
              simp only [Int.toNat_natCast] at u2 u3 u4 u5 u6 ⊢
              refine ⟨(q.drop k).take (dec q k).2 ++ u, ?_, by rw [u2, List.append_assoc], u3, u4, u5, by rw [← List.append_assoc]; exact u6, .more q k u h2 (by omega) h1 u7⟩
              rw [flatB_append, flatB_hi _ (take_hi q k h2 (by omega)), List.append_assoc, ← u1, ← List.drop_drop, List.take_append_drop]
    · have hi : ¬ (k : Int) < q.length := by omega
      simp only [textGo, if_neg hi] at he; simp at he

/-- what was written is taken -/
theorem text_fwd (t : List UInt8) (ht : t.length ≤ 40) : ∀ (m k : Nat), k ≤ t.length → (eachR t m k).1 = true → t.length - k < m → ∀ (q : List UInt8) (p M : Nat) (out : List UInt8), q.drop p = flatB (t.drop k) ++ [34] → out = t.take k → q.length - p < M → p ≤ q.length →
    textGo q M p out = ⟨2, 0, t, q.length, 0, q.length, false⟩ := by
  intro m
  induction m with
  | zero => intro k _ _ h; omega
  | succ m ih =>
    intro k hk ho hm q p M out hq hout hM hp
    obtain ⟨M, rfl⟩ : ∃ x, M = x + 1 := ⟨M - 1, by omega⟩
    by_cases hl : k < t.length
    · by_cases hw0 : width t k = 0
      · simp only [eachR, if_pos hl, if_pos hw0] at ho; simp at ho
      · simp only [eachR, if_pos hl, if_neg hw0] at ho
        have hd := drop_cons t k hl
        rcases dec_cases t k hl with ⟨hb, hdc, hw⟩ | ⟨hb, hdc, hw⟩ | ⟨hb, h1, h2, h3, hw⟩
        · rw [hdc] at ho
          have hbb : (t.getD k 0).toNat < 128 := hb
          have hnext : t.take (k + 1) = t.take k ++ [t.getD k 0] := by
            rw [List.take_add_one]
            simp [List.getD_eq_getElem?_getD, hl]
          have hqq : q.drop p = writB ((t.getD k 0).toNat : Int) ++ (flatB (t.drop (k + 1)) ++ [34]) := by rw [hq, hd, flatB, List.append_assoc]
          by_cases hc : (t.getD k 0).toNat = 34 ∨ (t.getD k 0).toNat = 92 ∨ (t.getD k 0).toNat < 32 ∨ (t.getD k 0).toNat = 127
          · have hwb : writB ((t.getD k 0).toNat : Int) = 92 :: (writB ((t.getD k 0).toNat : Int)).drop 1 := by
              unfold writB
              by_cases x1 : ((t.getD k 0).toNat : Int) = 34 ∨ ((t.getD k 0).toNat : Int) = 92
              · rw [if_pos x1]; rfl
              · rw [if_neg x1]
                by_cases x2 : ((t.getD k 0).toNat : Int) = 10
                · rw [if_pos x2]; rfl
                · rw [if_neg x2, if_pos (by omega)]; rfl
            rw [hwb] at hqq
            obtain ⟨k1, k2, k3⟩ := chr_at (c := 92) (t := (writB ((t.getD k 0).toNat : Int)).drop 1 ++ (flatB (t.drop (k + 1)) ++ [34])) hqq
            have k1 : chr q (p : Int) = 92 := k1
            obtain ⟨e1, e, e2, e3⟩ := esc_fwd hbb hc k3
            have ep : (p : Int) + 1 = ((p + 1 : Nat) : Int) := by omega
            have he : e ≤ q.length := by
              have := (escTo_range q ((p + 1 : Nat) : Int) (by omega)).2.1
              omega
            have hge : p + 1 ≤ e := by
              have := (escTo_range q ((p + 1 : Nat) : Int) (by omega)).1
              omega
            simp only [textGo, if_pos (show (p : Int) < q.length by omega), if_neg (show ¬ chr q (p : Int) = 34 by omega), if_pos k1, ep, e1, e2]
            rw [if_neg (by omega)]
            refine ih (k + 1) (by omega) ho (by omega) q e M _ e3 ?_ (by omega) he
            rw [hout, hnext]; simp
          · have hwb : writB ((t.getD k 0).toNat : Int) = [t.getD k 0] := by
              unfold writB
              rw [if_neg (by omega), if_neg (by omega), if_neg (by omega)]; simp
            rw [hwb] at hqq
            obtain ⟨k1, k2, k3⟩ := chr_at (c := t.getD k 0) (t := flatB (t.drop (k + 1)) ++ [34]) hqq
            have hbq : byt q p = (t.getD k 0).toNat := byt_at hqq 0
            have hwq : width q (p : Int) = 1 := width_lo q p k2 (by omega)
            have ep : (p : Int) + 1 = ((p + 1 : Nat) : Int) := by omega
            simp only [textGo, if_pos (show (p : Int) < q.length by omega), if_neg (show ¬ chr q (p : Int) = 34 by omega), if_neg (show ¬ chr q (p : Int) = 92 by omega), hwq, ep]
            rw [if_neg (by omega)]
            refine ih (k + 1) (by omega) ho (by omega) q (p + 1) M _ k3 ?_ (by omega) (by omega)
            have hdq : q.drop p = t.getD k 0 :: (flatB (t.drop (k + 1)) ++ [34]) := hqq
            rw [hout, hnext, Int.toNat_natCast, hdq]; rfl
        · exact absurd hw hw0
        · have hsplit : t.drop k = (t.drop k).take (dec t k).2 ++ t.drop (k + (dec t k).2) := by rw [← List.drop_drop, List.take_append_drop]
          have hqq : q.drop p = (t.drop k).take (dec t k).2 ++ (flatB (t.drop (k + (dec t k).2)) ++ [34]) := by
            rw [hq]
            conv => lhs; rw [hsplit]
            rw [flatB_append, flatB_hi _ (take_hi t k h2 (by omega)), List.append_assoc]
          have hdq := dec_ext h2 (by omega) hqq
          have hpl : p < q.length := by
            have := congrArg List.length hqq
            rw [List.length_append, List.length_take, List.length_drop, List.length_drop] at this; omega
          have hpl2 : p + (dec t k).2 ≤ q.length := by
            have := congrArg List.length hqq
            rw [List.length_append, List.length_take, List.length_drop, List.length_drop] at this; omega
          have hwq := width_dec hpl (by rw [hdq]; exact h2)
          rw [hdq] at hwq
          have hbq : byt q p = byt t k := by
            have := congrArg Prod.fst hdq
            rcases dec_cases q p hpl with ⟨_, hx, _⟩ | ⟨_, hx, _⟩ | ⟨hx, _⟩
            · rw [hdq] at hx; rw [hx] at h2; simp at h2
            · rw [hdq] at hx; rw [hx] at h2; simp at h2
            · have e0 := byt_at hqq 0
              rw [Nat.add_zero] at e0
              rw [e0]
              have : ((t.drop k).take (dec t k).2 ++ (flatB (t.drop (k + (dec t k).2)) ++ [34])).getD 0 0 = t.getD k 0 := by
                obtain ⟨w, hw'⟩ : ∃ w, (dec t k).2 = w + 1 := ⟨(dec t k).2 - 1, by omega⟩
                rw [hd, hw']; rfl
              rw [this]; rfl
          have hcq : chr q (p : Int) = (byt q p : Int) := chr_byt q p
          have ep : (p : Int) + ((dec t k).2 : Int) = ((p + (dec t k).2 : Nat) : Int) := by omega
          simp only [textGo, if_pos (show (p : Int) < q.length by omega), if_neg (show ¬ chr q (p : Int) = 34 by omega), if_neg (show ¬ chr q (p : Int) = 92 by omega), hwq, ep]
          rw [if_neg (by omega)]
          refine ih (k + (dec t k).2) (by omega) ho (by omega) q (p + (dec t k).2) M _ ?_ ?_ (by omega) hpl2
          · rw [← List.drop_drop, hqq, List.drop_append, List.drop_of_length_le (by rw [List.length_take, List.length_drop]; omega), List.length_take, List.length_drop, show (dec t k).2 - min (dec t k).2 (t.length - k) = 0 by omega]
            rfl
          · have ht2 : t.take (k + (dec t k).2) = t.take k ++ (t.drop k).take (dec t k).2 := List.take_add
            rw [hout, ht2, Int.toNat_natCast, Int.toNat_natCast, hqq]
            congr 1
            rw [List.take_append_of_le_length (by rw [List.length_take, List.length_drop]; omega), List.take_take, Nat.min_self]
    · have hk' : k = t.length := by omega
      subst hk'
      rw [List.drop_eq_nil_of_le (Nat.le_refl _)] at hq
      obtain ⟨k1, k2, k3⟩ := chr_at (c := 34) (t := []) hq
      have k1 : chr q (p : Int) = 34 := k1
      have hend : q.length = p + 1 := by
        have := congrArg List.length k3
        rw [List.length_drop] at this; simp at this; omega
      rw [List.take_length] at hout
      subst hout
      simp only [textGo, if_pos (show (p : Int) < q.length by omega), if_pos k1]
      rw [if_neg (by omega), if_neg (by omega)]
      have : (p : Int) + 1 = (q.length : Int) := by omega
      rw [this]
end Go.PS
end

section
namespace Go.PS
open Go.Proofs
theorem textGo_err (s : List UInt8) : ∀ (m : Nat) (a : Int) (out : List UInt8), 0 ≤ a → a ≤ s.length → (textGo s m a out).err ≠ 0 →
    (textGo s m a out).kind = 0 ∧ (textGo s m a out).n = 0 ∧ (textGo s m a out).txt = [] ∧ 0 ≤ (textGo s m a out).pos ∧ (textGo s m a out).pos ≤ s.length := by
  intro m
  induction m with
  | zero => intro a out _ _ _; simp only [textGo]; simp
  | succ m ih =>
    intro a out h0 h1 he
    by_cases hk : a < s.length
    · have w : 0 ≤ width s a ∧ a + width s a ≤ s.length := by
        obtain ⟨k, rfl⟩ := Int.eq_ofNat_of_zero_le h0
        rcases dec_cases s k (by omega) with ⟨_, _, hw⟩ | ⟨_, _, hw⟩ | ⟨_, _, _, h3, hw⟩ <;> omega
      have e := escTo_range s (a + 1) (by omega)
      have f : 0 ≤ failN s (escTo s (a + 1)) ∧ failN s (escTo s (a + 1)) ≤ s.length := by unfold failN; split <;> omega
      have i1 := ih (escTo s (a + 1)) (out ++ [UInt8.ofNat (escV s (a + 1)).toNat])
      have i2 := ih (a + width s a) (out ++ (s.drop a.toNat).take (width s a).toNat)
      clear ih
      simp only [textGo, if_pos hk] at he ⊢
      by_cases c1 : chr s a = 34
      · simp only [if_pos c1] at he ⊢
        by_cases c2 : a + 1 < s.length
        · simp only [if_pos c2]; simp; omega
        · simp only [if_neg c2] at he ⊢
          by_cases c3 : 40 < out.length
          · simp only [if_pos c3]; simp
          · simp only [if_neg c3] at he; simp at he
      · simp only [if_neg c1] at he ⊢
        by_cases c2 : chr s a = 92
        · simp only [if_pos c2] at he ⊢
          by_cases c3 : escV s (a + 1) < 0
          · simp only [if_pos c3]; simp; omega
          · simp only [if_neg c3] at he ⊢
            exact i1 (by omega) (by omega) he
        · simp only [if_neg c2] at he ⊢
          by_cases c3 : width s a = 0 ∨ chr s a < 32 ∨ chr s a = 127
          · simp only [if_pos c3]; simp; omega
          · simp only [if_neg c3] at he ⊢
            exact i2 (by omega) (by omega) he
    · simp only [textGo, if_neg hk]; simp
theorem digTo_lo (s : List UInt8) : ∀ (m : Nat) (i : Int), i ≤ digTo s m i := by
  intro m
  induction m with
  | zero => intro i; exact Int.le_refl _
  | succ m ih => intro i; have := ih (i + 1); clear ih; simp only [digTo]; grind
theorem numR_err (s : List UInt8) (h : 1 ≤ s.length) (he : (numR s).err ≠ 0) : (numR s).kind = 0 ∧ (numR s).n = 0 ∧ (numR s).txt = [] ∧ 0 ≤ (numR s).pos ∧ (numR s).pos ≤ s.length := by
  have g : 0 ≤ numAt s ∧ numAt s ≤ 1 := by unfold numAt; split <;> omega
  have f : 0 ≤ failN s (numAt s) ∧ failN s (numAt s) ≤ s.length := by unfold failN; split <;> omega
  have d := digTo_le s FU (numAt s + 1)
  have d2 := digTo_lo s FU (numAt s + 1)
  unfold numR at he ⊢
  grind
/-- what is no value's text tells no value, and a place in it -/
theorem parse_err (s : List UInt8) (he : (parseR s).err ≠ 0) : (parseR s).kind = 0 ∧ (parseR s).n = 0 ∧ (parseR s).txt = [] ∧ 0 ≤ (parseR s).pos ∧ (parseR s).pos ≤ s.length := by
  have a := textGo_err s FU 1 []
  have b := numR_err s
  unfold parseR textR at he ⊢
  grind
/-- what is written of a value is read as it -/
theorem parse_text (k n : Int) (s : List UInt8) (h : rightR k n s = true) (h0 : -9223372036854775808 ≤ n) (h1 : n ≤ 9223372036854775807) (hs : s.length ≤ big) :
    (parseR (textV k n s)).kind = k ∧ (parseR (textV k n s)).n = n ∧ (parseR (textV k n s)).txt = s ∧ (parseR (textV k n s)).pos = ((textV k n s).length : Int) ∧ (parseR (textV k n s)).err = 0 := by
  have h' := h
  unfold rightR at h
  simp only [Bool.or_eq_true, Bool.and_eq_true, decide_eq_true_eq] at h
  rcases h with ⟨rfl, rfl⟩ | ⟨⟨⟨rfl, rfl⟩, h40⟩, ho⟩
  · have e : textV 1 n [] = Lib.itoa n := by unfold textV; rw [if_pos h', if_pos rfl]
    rw [e]
    exact parse_itoa n h0 h1
  · have e : textV 2 0 s = quoteB s := by unfold textV; rw [if_pos h', if_neg (by decide), quote_eq s hs ho]
    rw [e]
    have hf := flatB_len s
    have hq : (quoteB s).drop 1 = flatB (s.drop 0) ++ [34] := rfl
    have hl : (quoteB s).length = (flatB s).length + 2 := by unfold quoteB; simp
    have hg := text_fwd s h40 FU 0 (Nat.zero_le _) ho (by unfold big at hs; unfold FU; omega) (quoteB s) 1 FU [] hq rfl (by unfold FU; omega) (by omega)
    have hP : parseR (quoteB s) = textGo (quoteB s) FU 1 [] := by
      unfold parseR textR
      rw [if_neg (by omega), if_pos (show chr (quoteB s) 0 = 34 from rfl)]
    have e1 : ((1 : Nat) : Int) = 1 := rfl
    rw [e1] at hg
    rw [hP, hg]
    exact ⟨rfl, rfl, rfl, rfl, rfl⟩
theorem allDig_two (s : List UInt8) (k : Nat) (hk : k ≤ s.length) (hs : s.length ≤ big) (h : digTo s FU k = s.length) : allDig (s.drop k) := allDig_of s FU k hk (by unfold big at hs; unfold FU; omega) h
/-- what is read of a number is its text -/
theorem num_bwd (s : List UInt8) (h1 : 1 ≤ s.length) (hs : s.length ≤ big) (he : (numR s).err = 0) :
    (numR s).kind = 1 ∧ (numR s).txt = [] ∧ (numR s).pos = s.length ∧ Lib.itoa (numR s).n = s ∧ -9223372036854775808 ≤ (numR s).n ∧ (numR s).n ≤ 9223372036854775807 := by
  obtain ⟨c, r, rfl⟩ : ∃ c r, s = c :: r := by
    cases s with
    | nil => simp at h1
    | cons c r => exact ⟨c, r, rfl⟩
  have c0 : chr (c :: r) 0 = (c.toNat : Int) := rfl
  have fE : ∀ n, failE (c :: r) n ≠ 0 := by intro n; unfold failE; split <;> decide
  by_cases hm : c.toNat = 45
  · have hA : numAt (c :: r) = 1 := by unfold numAt; rw [c0, if_pos (by omega)]
    have hc45 : c = 45 := UInt8.toNat_inj.1 hm
    unfold numR at he ⊢
    rw [hA] at he ⊢
    by_cases g : ¬ ((1 : Int) < ((c :: r).length : Int) ∧ isDigit (chr (c :: r) 1) = true) ∨ (chr (c :: r) 1 = 48 ∧ (1 : Int) = 1)
    · rw [if_pos g] at he; exact absurd he (fE _)
    · rw [if_neg g] at he ⊢
      have g1 : (1 : Int) < ((c :: r).length : Int) ∧ isDigit (chr (c :: r) 1) = true := Classical.not_not.1 fun h => g (Or.inl h)
      have g2 : ¬ chr (c :: r) 1 = 48 := fun h => g (Or.inr ⟨h, rfl⟩)
      rw [if_neg g2] at he ⊢
      obtain ⟨d, r', rfl⟩ : ∃ d r', r = d :: r' := by
        cases r with
        | nil => simp at g1
        | cons d r' => exact ⟨d, r', rfl⟩
      have c1 : chr (c :: d :: r') 1 = (d.toNat : Int) := rfl
      rw [c1] at g1 g2
      have hdg := (isDigit_iff _).1 g1.2
      by_cases j : digTo (c :: d :: r') FU (1 + 1) < ((c :: d :: r').length : Int)
      · rw [if_pos j] at he; simp at he
      · rw [if_neg j] at he ⊢
        by_cases o : atoiOk (c :: d :: r') = true
        · rw [if_pos o]
          have hD : digTo (c :: d :: r') FU ((2 : Nat) : Int) = ((c :: d :: r').length : Int) := by
            have := digTo_le (c :: d :: r') FU 2 (by simp; omega)
            have e : ((1 : Int) + 1) = 2 := rfl
            rw [e] at j
            show digTo (c :: d :: r') FU 2 = _
            omega
          have had := allDig_two (c :: d :: r') 2 (by simp) hs hD
          have hall : allDig (d :: r') := by
            intro x hx
            rcases List.mem_cons.1 hx with rfl | hx
            · omega
            · exact had x (by simpa using hx)
          have hval : ∃ u, Lib.parseUint10 0 (d :: r') = .ok u ∧ Lib.atoiAll (c :: d :: r') = .ok (-(u : Int)) ∧ u ≤ 9223372036854775808 := by
            unfold atoiOk Lib.atoiAll at o
            simp only [hm, or_true, if_true, Lib.parseMag, if_neg (show ¬ (d :: r' : List UInt8) = [] by simp), not_true_eq_false, false_and, if_false, true_and] at o
            unfold Lib.atoiAll
            simp only [hm, or_true, if_true, Lib.parseMag, if_neg (show ¬ (d :: r' : List UInt8) = [] by simp), not_true_eq_false, false_and, if_false, true_and]
            cases hp : Lib.parseUint10 0 (d :: r') with
            | ok u =>
              rw [hp] at o
              dsimp only at o ⊢
              by_cases q : 9223372036854775808 < u
              · rw [if_pos q] at o; simp at o
              · rw [if_neg q]; exact ⟨u, rfl, rfl, by omega⟩
            | range => rw [hp] at o; simp at o
            | «syntax» => rw [hp] at o; simp at o
          obtain ⟨u, u1, u2, u3⟩ := hval
          have hav : atoiV (c :: d :: r') = -(u : Int) := by unfold atoiV; rw [u2]
          have hu := (parse_dval _ _ _ u1).1
          have hdec := dec_dval (r'.length + 1) d r' (by omega) hall (by intro h; omega)
          rw [← hu] at hdec
          have hp := dval_pos d r' (by omega) 0
          rw [← hu] at hp
          rw [hav]
          refine ⟨rfl, rfl, rfl, ?_, (by show -9223372036854775808 ≤ -(u : Int); omega), (by show -(u : Int) ≤ 9223372036854775807; omega)⟩
          show Lib.itoa (-(u : Int)) = _
          unfold Lib.itoa
          rw [if_pos (by omega), show (-(u : Int)).natAbs = u by omega, hdec, hc45]
        · rw [if_neg o] at he; simp at he
  · have hA : numAt (c :: r) = 0 := by unfold numAt; rw [c0, if_neg (by omega)]
    unfold numR at he ⊢
    rw [hA] at he ⊢
    by_cases g : ¬ ((0 : Int) < ((c :: r).length : Int) ∧ isDigit (chr (c :: r) 0) = true) ∨ (chr (c :: r) 0 = 48 ∧ (0 : Int) = 1)
    · rw [if_pos g] at he; exact absurd he (fE _)
    · rw [if_neg g] at he ⊢
      have g1 : (0 : Int) < ((c :: r).length : Int) ∧ isDigit (chr (c :: r) 0) = true := Classical.not_not.1 fun h => g (Or.inl h)
      have hdg := (isDigit_iff _).1 g1.2
      rw [c0] at hdg
      by_cases z : chr (c :: r) 0 = 48
      · rw [if_pos z] at he ⊢
        by_cases q : 1 < (c :: r).length
        · rw [if_pos q] at he; simp at he
        · rw [if_neg q]
          have : r = [] := by cases r with | nil => rfl | cons x y => simp at q
          subst this
          have hc : c = 48 := UInt8.toNat_inj.1 (by rw [c0] at z; show c.toNat = 48; omega)
          subst hc
          refine ⟨rfl, rfl, rfl, ?_, by decide, by decide⟩
          show Lib.itoa 0 = [48]
          rw [itoa_small 0 (by omega) (by omega)]; rfl
      · rw [if_neg z] at he ⊢
        by_cases j : digTo (c :: r) FU (0 + 1) < ((c :: r).length : Int)
        · rw [if_pos j] at he; simp at he
        · rw [if_neg j] at he ⊢
          by_cases o : atoiOk (c :: r) = true
          · rw [if_pos o]
            have hD : digTo (c :: r) FU ((1 : Nat) : Int) = ((c :: r).length : Int) := by
              have := digTo_le (c :: r) FU 1 (by simp; omega)
              have e : ((0 : Int) + 1) = 1 := rfl
              rw [e] at j
              show digTo (c :: r) FU 1 = _
              omega
            have had := allDig_two (c :: r) 1 (by simp) hs hD
            have hall : allDig (c :: r) := by
              intro x hx
              rcases List.mem_cons.1 hx with rfl | hx
              · omega
              · exact had x (by simpa using hx)
            have n43 : ¬ c.toNat = 43 := by omega
            have hval : ∃ u, Lib.parseUint10 0 (c :: r) = .ok u ∧ Lib.atoiAll (c :: r) = .ok (u : Int) ∧ u < 9223372036854775808 := by
              unfold atoiOk Lib.atoiAll at o
              simp only [n43, hm, or_self, if_false, Lib.parseMag, if_neg (show ¬ (c :: r : List UInt8) = [] by simp), not_false_eq_true, true_and, false_and] at o
              unfold Lib.atoiAll
              simp only [n43, hm, or_self, if_false, Lib.parseMag, if_neg (show ¬ (c :: r : List UInt8) = [] by simp), not_false_eq_true, true_and, false_and]
              cases hp : Lib.parseUint10 0 (c :: r) with
              | ok u =>
                rw [hp] at o
                dsimp only at o ⊢
                by_cases q : 9223372036854775808 ≤ u
                · rw [if_pos q] at o; simp at o
                · rw [if_neg q]; exact ⟨u, rfl, rfl, by omega⟩
              | range => rw [hp] at o; simp at o
              | «syntax» => rw [hp] at o; simp at o
            obtain ⟨u, u1, u2, u3⟩ := hval
            have hav : atoiV (c :: r) = (u : Int) := by unfold atoiV; rw [u2]
            have hu := (parse_dval _ _ _ u1).1
            have hdec := dec_dval (r.length + 1) c r (by omega) hall (by intro h; rw [c0] at z; omega)
            rw [← hu] at hdec
            rw [hav]
            refine ⟨rfl, rfl, rfl, ?_, (by show -9223372036854775808 ≤ (u : Int); omega), (by show (u : Int) ≤ 9223372036854775807; omega)⟩
            show Lib.itoa (u : Int) = _
            unfold Lib.itoa
            rw [if_neg (by omega), Int.toNat_natCast, hdec]
          · rw [if_neg o] at he; simp at he
/-- what is read has just that text -/
theorem text_parse (s : List UInt8) (hs : s.length ≤ big) (he : (parseR s).err = 0) :
    rightR (parseR s).kind (parseR s).n (parseR s).txt = true ∧ textV (parseR s).kind (parseR s).n (parseR s).txt = s ∧ (parseR s).pos = s.length ∧ -9223372036854775808 ≤ (parseR s).n ∧ (parseR s).n ≤ 9223372036854775807 ∧ (parseR s).txt.length ≤ 40 := by
  by_cases h0 : s.length = 0
  · unfold parseR at he; rw [if_pos h0] at he; simp at he
  by_cases c1 : chr s 0 = 34
  · have hP : parseR s = textGo s FU 1 [] := by unfold parseR textR; rw [if_neg h0, if_pos c1]
    rw [hP] at he ⊢
    have e1 : ((1 : Nat) : Int) = 1 := rfl
    obtain ⟨u, u1, u2, u3, u4, u5, u6, u7⟩ := text_bwd s FU 1 [] (by omega) (by rw [e1]; exact he)
    rw [e1] at u2 u3 u4 u5
    rw [List.nil_append] at u2 u6
    have ho := val_ok u7 (by unfold big; omega)
    have hr : rightR 2 0 u = true := by unfold rightR; simp [u6, ho]
    rw [u2, u4, u5]
    refine ⟨hr, ?_, u3, by omega, by omega, u6⟩
    unfold textV
    rw [if_pos hr, if_neg (by decide), ← quote_eq u (by unfold big; omega) ho]
    unfold quoteB
    have hd := drop_cons s 0 (by omega)
    have h34 : s.getD 0 0 = 34 := UInt8.toNat_inj.1 (by have : ((s.getD 0 0).toNat : Int) = 34 := c1; show (s.getD 0 0).toNat = 34; omega)
    rw [List.drop_zero, h34] at hd
    rw [hd]
    show 34 :: (flatB u ++ [34]) = _
    rw [u1]
  · by_cases c2 : chr s 0 = 45 ∨ isDigit (chr s 0) = true
    · have hP : parseR s = numR s := by unfold parseR; rw [if_neg h0, if_neg c1, if_pos c2]
      rw [hP] at he ⊢
      obtain ⟨n1, n2, n3, n4, n5, n6⟩ := num_bwd s (by omega) hs he
      have hr : rightR 1 (numR s).n [] = true := by unfold rightR; simp
      rw [n1, n2]
      refine ⟨hr, ?_, n3, n5, n6, by simp⟩
      unfold textV
      rw [if_pos hr, if_pos rfl, n4]
    · unfold parseR at he; rw [if_neg h0, if_neg c1, if_neg c2] at he; simp at he
end Go.PS
end

section
namespace Go.PS
open Go.Proofs
def wordTo (s : List UInt8) : Nat → Int → Bool
  | 0, _ => true
  | m + 1, i => if i < s.length then (if smallB (chr s i) = true ∨ (i ≠ 0 ∧ isDigit (chr s i) = true) then wordTo s m (i + 1) else false) else true
/-- is a text a word, of any length -/
def wordB (s : List UInt8) : Bool := wordTo s FU 0 && decide (s ≠ [])
/-- are a token's text and number right for its kind -/
def rightT (k n : Int) (s : List UInt8) : Bool :=
  (decide (k = 1) && decide (n = 0) && decide ((s.length : Int) ≤ 12) && wordB s) || (decide (k = 2) && decide (s = [])) || (decide (k = 3) && decide (n = 0) && rightR 2 0 s) ||
  (decide (k = 4) && decide (s = []) && decide (0 < n)) || (decide (k = 5) && decide (n = 0) && markB s)
def tokRight (k n a : Int) (s : List UInt8) : Bool := decide (0 ≤ a) && rightT k n s
def tokE (k n a : Int) (s : List UInt8) : Int := if tokRight k n a s = true then 0 else 2
def tokText (k n a : Int) (s : List UInt8) : List UInt8 :=
  if tokRight k n a s = true then (if k = 3 then quoteR s else if k = 2 then Lib.itoa n else if k = 4 then 35 :: Lib.itoa n else s) else []
def T92 (st : St) : Tr (Ex × St) :=
  bif shape 31 [0, 7, 8] st.slots then
    match gt .undef st.slots 0, gt .undef st.slots 7, gt .undef st.slots 8, st.heap with
    | .d (.str s), .d (.int .i64 l), .d (.int .i64 i), [] =>
      .chk (decide (0 ≤ i) && decide (i ≤ s.length) && decide (s.length ≤ big) && decide (l = s.length)) (.cnd (wordTo s FU i)
        (.ok (.exit 0, ⟨slots 31 [(0, .d (.str s))], []⟩))
        (.ok (.ret, ⟨slots 31 [(0, .d (.str s)), (2, .d (.bool false))], []⟩)))
    | _, _, _, _ => .no
  else .no
def L92 : Lps := fun i => bif Nat.beq i 2 then some (allBut 31 [0, 7, 8], allBut 31 [0, 2], T92) else none
def T91 (st : St) : Tr (Ex × St) :=
  bif shape 28 [0, 3] st.slots then
    match gt .undef st.slots 0, gt .undef st.slots 3, st.heap with
    | .d (.str s), .d (.int .i64 i), [] =>
      .chk (decide (0 ≤ i) && decide (i ≤ s.length) && decide (s.length ≤ big)) (.cnd (wordTo s FU i)
        (.ok (.exit 0, ⟨slots 28 [(0, .d (.str s))], []⟩))
        (.ok (.ret, ⟨slots 28 [(0, .d (.str s)), (2, .d (.bool false))], []⟩)))
    | _, _, _ => .no
  else .no
def L91 : Lps := fun i => bif Nat.beq i 2 then some (allBut 28 [0, 3], allBut 28 [0, 2], T91) else none
def S92 : List PV → Tr PV
  | [.d (.str s)] => .chk (decide (s.length ≤ big)) (.ok (.d (.bool (wordB s))))
  | _ => .no
def S63 : List PV → Tr PV
  | [.d (.agg [.int .i64 k, .str s, .int .i64 n, .int .i64 _])] => .chk (decide (s.length ≤ big)) (.ok (.d (.bool (rightT k n s))))
  | _ => .no
def S62 : List PV → Tr PV
  | [.d (.agg [.int .i64 k, .str s, .int .i64 n, .int .i64 a])] => .chk (decide (s.length ≤ big)) (.ok (.d (.bool (tokRight k n a s))))
  | _ => .no
def S33 : List PV → Tr PV
  | [.d (.agg [.int .i64 k, .str s, .int .i64 n, .int .i64 a])] => .chk (decide (s.length ≤ big)) (.ok (.d (.int .i64 (tokE k n a s))))
  | _ => .no
def S30 : List PV → Tr PV
  | [.d (.agg [.int .i64 k, .str s, .int .i64 n, .int .i64 a])] => .chk (decide (s.length ≤ big) && decide (-9223372036854775808 ≤ n) && decide (n ≤ 9223372036854775807)) (.ok (.tup [.d (.str (tokText k n a s)), .d (.int .i64 (tokE k n a s))]))
  | _ => .no
end Go.PS
end

section
namespace Go.PS
open Go.Proofs
set_option maxRecDepth 100000
theorem round92_0 (F : Nat) {R : Type} (s : List UInt8) (l i : Int) (K : Ex → St → Option R) (G : St → Option R) : roundK (pcodeK (ctx F [(95, .pure S95)]) noL (lp Tryd.f92 0)) 0 (allBut 31 [0, 7, 8] ++ temps (lp Tryd.f92 0)) (allBut 31 [0, 2]) ⟨slots 31 [(0, .d (.str s)), (7, .d (.int .i64 l)), (8, .d (.int .i64 i))], []⟩ K G =
    Tr.run
      (.cnd (decide (i < l))
        (.chk (decide (0 ≤ i))
        (.chk (decide (i.toNat < s.length))
        (.cnd (!(decide (97 ≤ (↑(s.getD i.toNat 0).toNat : Int)) && decide ((↑(s.getD i.toNat 0).toNat : Int) ≤ 122)))
          (.cnd (decide (i = 0))
            (.ok (.inl (Ex.ret, ⟨slots 31 [(0, PV.d (DV.str s)), (2, PV.d (DV.bool false))], []⟩)))
            (.cnd (!isDigit (↑(s.getD i.toNat 0).toNat : Int))
              (.ok (.inl (Ex.ret, ⟨slots 31 [(0, PV.d (DV.str s)), (2, PV.d (DV.bool false))], []⟩)))
              (.ok (.inr ⟨slots 31 [(0, PV.d (DV.str s)), (7, PV.d (DV.int IntKind.i64 l)), (8, PV.d (DV.int IntKind.i64 (IntKind.i64.wrap (i + 1))))], []⟩))))
          (.ok (.inr ⟨slots 31 [(0, PV.d (DV.str s)), (7, PV.d (DV.int IntKind.i64 l)), (8, PV.d (DV.int IntKind.i64 (IntKind.i64.wrap (i + 1))))], []⟩)))))
        (.ok (.inl (Ex.exit 0, ⟨slots 31 [(0, PV.d (DV.str s))], []⟩)))) (rnd K G) := by kernel_rfl
/-! fasti token.word -/
theorem fn92 : FnOk Tryd.prog 92 31 [.tmp 2] (body Tryd.f92) := ⟨Tryd.f92, Tryd.func92, bodySome _ (by kernel_rfl), by kernel_rfl, by kernel_rfl, by kernel_rfl, by kernel_rfl⟩
theorem run92 (F : Nat) (s : List UInt8) : runP (ctx F [(95, .pure S95)]) L92 31 [.tmp 2] (body Tryd.f92) [.d (.str s)] =
    Tr.val
      (.chk (decide (0 ≤ 0) && decide (0 ≤ (↑s.length : Int)) && decide (s.length ≤ big) &&
        decide ((↑s.length : Int) = (↑s.length : Int)))
      (.cnd (wordTo s FU 0)
        (.ok (PV.d (DV.bool !decide (s = ([] : List UInt8)))))
        (.ok (PV.d (DV.bool false))))) := by kernel_rfl
theorem round91_0 (F : Nat) {R : Type} (s : List UInt8) (i : Int) (K : Ex → St → Option R) (G : St → Option R) : roundK (pcodeK (ctx F [(69, .pure S69), (71, .pure S71)]) noL (lp Tryd.f91 0)) 0 (allBut 28 [0, 3] ++ temps (lp Tryd.f91 0)) (allBut 28 [0, 2]) ⟨slots 28 [(0, .d (.str s)), (3, .d (.int .i64 i))], []⟩ K G =
    Tr.run
      (.cnd (decide (i < (↑s.length : Int)))
        (.chk (decide (0 ≤ i))
        (.chk (decide (i.toNat < s.length))
        (.cnd (!smallB (↑(s.getD i.toNat 0).toNat : Int))
          (.cnd (decide (i = 0))
            (.ok (.inl (Ex.ret, ⟨slots 28 [(0, PV.d (DV.str s)), (2, PV.d (DV.bool false))], []⟩)))
            (.chk (decide (0 ≤ i))
            (.chk (decide (i.toNat < s.length))
            (.cnd (!isDigit (↑(s.getD i.toNat 0).toNat : Int))
              (.ok (.inl (Ex.ret, ⟨slots 28 [(0, PV.d (DV.str s)), (2, PV.d (DV.bool false))], []⟩)))
              (.ok (.inr ⟨slots 28 [(0, PV.d (DV.str s)), (3, PV.d (DV.int IntKind.i64 (IntKind.i64.wrap (i + 1))))], []⟩))))))
          (.ok (.inr ⟨slots 28 [(0, PV.d (DV.str s)), (3, PV.d (DV.int IntKind.i64 (IntKind.i64.wrap (i + 1))))], []⟩)))))
        (.ok (.inl (Ex.exit 0, ⟨slots 28 [(0, PV.d (DV.str s))], []⟩)))) (rnd K G) := by kernel_rfl
/-! fasti fastiref16.word -/
theorem fn91 : FnOk Tryd.prog 91 28 [.tmp 2] (body Tryd.f91) := ⟨Tryd.f91, Tryd.func91, bodySome _ (by kernel_rfl), by kernel_rfl, by kernel_rfl, by kernel_rfl, by kernel_rfl⟩
theorem run91 (F : Nat) (s : List UInt8) : runP (ctx F [(69, .pure S69), (71, .pure S71)]) L91 28 [.tmp 2] (body Tryd.f91) [.d (.str s)] =
    Tr.val
      (.chk (decide (0 ≤ 0) && decide (0 ≤ (↑s.length : Int)) && decide (s.length ≤ big))
      (.cnd (wordTo s FU 0)
        (.ok (PV.d (DV.bool !decide (s = ([] : List UInt8)))))
        (.ok (PV.d (DV.bool false))))) := by kernel_rfl
/-! fasti token.right -/
theorem fn63 : FnOk Tryd.prog 63 58 [.tmp 2] (body Tryd.f63) := ⟨Tryd.f63, Tryd.func63, bodySome _ (by kernel_rfl), by kernel_rfl, by kernel_rfl, by kernel_rfl, by kernel_rfl⟩
theorem run63 (F : Nat) (k n a : Int) (s : List UInt8) : runP (ctx F [(21, .pure S21u), (92, .pure S92), (93, .pure S93)]) noL 58 [.tmp 2] (body Tryd.f63) [.d (.agg [.int .i64 k, .str s, .int .i64 n, .int .i64 a])] =
    Tr.val
      (.cnd (decide (k = 1))
        (.cnd (decide (n = 0))
          (.cnd (decide ((↑s.length : Int) ≤ 12))
            (.chk (decide (s.length ≤ big))
            (.ok (PV.d (DV.bool (wordB s)))))
            (.ok (PV.d (DV.bool false))))
          (.ok (PV.d (DV.bool false))))
        (.cnd (decide (k = 2))
          (.ok (PV.d (DV.bool (decide (s = ([] : List UInt8))))))
          (.cnd (decide (k = 3))
            (.cnd (decide (n = 0))
              (.chk (decide (s.length ≤ big))
              (.ok (PV.d (DV.bool (decide (rightE 2 0 s = 0))))))
              (.ok (PV.d (DV.bool false))))
            (.cnd (decide (k = 4))
              (.cnd (decide (s = ([] : List UInt8)))
                (.ok (PV.d (DV.bool (decide (n > 0)))))
                (.ok (PV.d (DV.bool false))))
              (.cnd (decide (k = 5))
                (.cnd (decide (n = 0))
                  (.ok (PV.d (DV.bool (markB s))))
                  (.ok (PV.d (DV.bool false))))
                (.ok (PV.d (DV.bool false)))))))) := by kernel_rfl
/-! fasti fastiref16.Right -/
theorem fn62 : FnOk Tryd.prog 62 60 [.tmp 2] (body Tryd.f62) := ⟨Tryd.f62, Tryd.func62, bodySome _ (by kernel_rfl), by kernel_rfl, by kernel_rfl, by kernel_rfl, by kernel_rfl⟩
theorem run62 (F : Nat) (k n a : Int) (s : List UInt8) : runP (ctx F [(50, .pure S50), (73, .pure S93), (91, .pure S92)]) noL 60 [.tmp 2] (body Tryd.f62) [.d (.agg [.int .i64 k, .str s, .int .i64 n, .int .i64 a])] =
    Tr.val
      (.cnd (decide (a < 0))
        (.ok (PV.d (DV.bool false)))
        (.cnd (decide (k = 1))
          (.cnd (decide (n = 0))
            (.chk (decide (s.length ≤ big))
            (.cnd (wordB s)
              (.ok (PV.d (DV.bool (decide ((↑s.length : Int) ≤ 12)))))
              (.ok (PV.d (DV.bool false)))))
            (.ok (PV.d (DV.bool false))))
          (.cnd (decide (k = 2))
            (.ok (PV.d (DV.bool (decide (s = ([] : List UInt8))))))
            (.cnd (decide (k = 3))
              (.cnd (decide (n = 0))
                (.chk (decide (s.length ≤ big))
                (.ok (PV.d (DV.bool (rightR 2 0 s)))))
                (.ok (PV.d (DV.bool false))))
              (.cnd (decide (k = 4))
                (.cnd (decide (s = ([] : List UInt8)))
                  (.ok (PV.d (DV.bool (decide (n ≥ 1)))))
                  (.ok (PV.d (DV.bool false))))
                (.cnd (decide (k = 5))
                  (.cnd (decide (n = 0))
                    (.ok (PV.d (DV.bool (markB s))))
                    (.ok (PV.d (DV.bool false))))
                  (.ok (PV.d (DV.bool false))))))))) := by kernel_rfl
/-! fasti token.Check -/
theorem fn33 : FnOk Tryd.prog 33 11 [.tmp 2] (body Tryd.f33) := ⟨Tryd.f33, Tryd.func33, bodySome _ (by kernel_rfl), by kernel_rfl, by kernel_rfl, by kernel_rfl, by kernel_rfl⟩
theorem run33 (F : Nat) (k n a : Int) (s : List UInt8) : runP (ctx F [(63, .pure S63)]) noL 11 [.tmp 2] (body Tryd.f33) [.d (.agg [.int .i64 k, .str s, .int .i64 n, .int .i64 a])] =
    Tr.val
      (.cnd (decide (a < 0))
        (.ok (PV.d (DV.int IntKind.i64 (2))))
        (.chk (decide (s.length ≤ big))
        (.cnd (!rightT k n s)
          (.ok (PV.d (DV.int IntKind.i64 (2))))
          (.ok (PV.d (DV.int IntKind.i64 (0))))))) := by kernel_rfl
/-! fasti fastiref16.Check -/
theorem fn34 : FnOk Tryd.prog 34 6 [.tmp 2] (body Tryd.f34) := ⟨Tryd.f34, Tryd.func34, bodySome _ (by kernel_rfl), by kernel_rfl, by kernel_rfl, by kernel_rfl, by kernel_rfl⟩
theorem run34 (F : Nat) (k n a : Int) (s : List UInt8) : runP (ctx F [(62, .pure S62)]) noL 6 [.tmp 2] (body Tryd.f34) [.d (.agg [.int .i64 k, .str s, .int .i64 n, .int .i64 a])] =
    Tr.val
      (.chk (decide (s.length ≤ big))
      (.cnd (!tokRight k n a s)
        (.ok (PV.d (DV.int IntKind.i64 (2))))
        (.ok (PV.d (DV.int IntKind.i64 (0)))))) := by kernel_rfl
/-! fasti token.Text -/
theorem fn30 : FnOk Tryd.prog 30 44 [.tmp 2, .tmp 3] (body Tryd.f30) := ⟨Tryd.f30, Tryd.func30, bodySome _ (by kernel_rfl), by kernel_rfl, by kernel_rfl, by kernel_rfl, by kernel_rfl⟩
theorem run30 (F : Nat) (k n a : Int) (s : List UInt8) : runP (ctx F [(20, .pure S20u), (33, .pure S33)]) noL 44 [.tmp 2, .tmp 3] (body Tryd.f30) [.d (.agg [.int .i64 k, .str s, .int .i64 n, .int .i64 a])] =
    Tr.val
      (.chk (decide (s.length ≤ big))
      (.cnd (!decide (tokE k n a s = 0))
        (.ok (PV.tup [PV.d (DV.str ([] : List UInt8)), PV.d (DV.int IntKind.i64 (tokE k n a s))]))
        (.cnd (decide (k = 3))
          (.chk (decide (s.length ≤ big) && decide (-9223372036854775808 ≤ 0) && decide (0 ≤ 9223372036854775807))
          (.ok (PV.tup [PV.d (DV.str (textV 2 0 s)), PV.d (DV.int IntKind.i64 (rightE 2 0 s))])))
          (.cnd (decide (k = 2))
            (.chk (decide (([] : List DV).length ≤ big) && decide (-9223372036854775808 ≤ n) && decide (n ≤ 9223372036854775807))
            (.ok (PV.tup [PV.d (DV.str (textV 1 n [])), PV.d (DV.int IntKind.i64 (rightE 1 n []))])))
            (.cnd (decide (k = 4))
              (.chk (decide (([] : List DV).length ≤ big) && decide (-9223372036854775808 ≤ n) && decide (n ≤ 9223372036854775807))
              (.chk (decide (([35] : List UInt8).length + (textV 1 n []).length ≤ 9223372036854775807))
              (.ok (PV.tup [PV.d (DV.str (([35] : List UInt8) ++ textV 1 n [])), PV.d (DV.int IntKind.i64 (rightE 1 n []))]))))
              (.ok (PV.tup [PV.d (DV.str s), PV.d (DV.int IntKind.i64 (0))]))))))) := by kernel_rfl
/-! fasti fastiref16.Text -/
theorem fn32 : FnOk Tryd.prog 32 27 [.tmp 2, .tmp 3] (body Tryd.f32) := ⟨Tryd.f32, Tryd.func32, bodySome _ (by kernel_rfl), by kernel_rfl, by kernel_rfl, by kernel_rfl, by kernel_rfl⟩
theorem run32 (F : Nat) (k n a : Int) (s : List UInt8) : runP (ctx F [(51, .pure (S51 19)), (52, .pure S52), (62, .pure S62)]) noL 27 [.tmp 2, .tmp 3] (body Tryd.f32) [.d (.agg [.int .i64 k, .str s, .int .i64 n, .int .i64 a])] =
    Tr.val
      (.chk (decide (s.length ≤ big))
      (.cnd (!tokRight k n a s)
        (.ok (PV.tup [PV.d (DV.str ([] : List UInt8)), PV.d (DV.int IntKind.i64 (2))]))
        (.cnd (decide (k = 2))
          (.chk (dOk 19 n)
          (.ok (PV.tup [PV.d (DV.str (Lib.itoa n)), PV.d (DV.int IntKind.i64 (0))])))
          (.cnd (decide (k = 3))
            (.chk (decide (s.length ≤ big))
            (.ok (PV.tup [PV.d (DV.str (quoteB s)), PV.d (DV.int IntKind.i64 (0))])))
            (.cnd (decide (k = 4))
              (.chk (dOk 19 n)
              (.chk (decide (([35] : List UInt8).length + (Lib.itoa n).length ≤ 9223372036854775807))
              (.ok (PV.tup [PV.d (DV.str (([35] : List UInt8) ++ Lib.itoa n)), PV.d (DV.int IntKind.i64 (0))]))))
              (.ok (PV.tup [PV.d (DV.str s), PV.d (DV.int IntKind.i64 (0))]))))))) := by kernel_rfl
end Go.PS
end
