/- A part of the proof of the claim (the pure semantics PS and the contracts of the functions over it). -/
import Derived.Test.YtihpkebhgkfiaaaDoorPsD
import Derived.Lib.DecodeN
set_option linter.all false
section
namespace Go.PS
def chr (s : List UInt8) (n : Int) : Int := ((s.getD n.toNat 0).toNat : Int)
/-- does one of some stand at a place -/
def hasB (some s : List UInt8) (n : Int) : Bool := decide (n.toNat < s.length) && decide (0 ≤ idxB some (chr s n))
def lim : Int := 4611686018427387904
def S77 : List PV → List PObj → Tr (Out × List PObj)
  | [.ptr 0 0, .d (.str l)], [.cells [.d (.str s), .d (.int .i64 n)]] =>
    .chk (decide (0 ≤ n) && decide (n < lim)) (.cnd (hasB l s n)
      (.ok (.ret (.tup [.d (.int .u8 (chr s n)), .d (.bool true)]), [.cells [.d (.str s), .d (.int .i64 (n + 1))]]))
      (.ok (.ret (.tup [.d (.int .u8 0), .d (.bool false)]), [.cells [.d (.str s), .d (.int .i64 n)]])))
  | _, _ => .no
/-- what fail tells -/
def failN (s : List UInt8) (n : Int) : Int := if n < s.length then n else s.length
def failE (s : List UInt8) (n : Int) : Int := if n < s.length then 4 else 3
def S45 : List PV → List PObj → Tr (Out × List PObj)
  | [.ptr 0 0], [.cells [.d (.str s), .d (.int .i64 n)]] =>
    .ok (.ret (.tup [.d (.agg [.int .i64 0, .int .i64 0, .str []]), .d (.int .i64 (failN s n)), .d (.int .i64 (failE s n))]), [.cells [.d (.str s), .d (.int .i64 n)]])
  | _, _ => .no
end Go.PS
end

section
namespace Go.PS
open Go.Proofs
set_option maxRecDepth 100000
/-! (*fasti value.reader).fail -/
theorem fn45 : FnOk Tryd.prog 45 26 [.cell 2 33, .tmp 3, .tmp 4] (body Tryd.f45) := ⟨Tryd.f45, Tryd.func45, bodySome _ (by kernel_rfl), by kernel_rfl, by kernel_rfl, by kernel_rfl, by kernel_rfl⟩
theorem run45 (F : Nat) (s : List UInt8) (n : Int) : runE (ctx F []) noL 26 [.cell 2 33, .tmp 3, .tmp 4] (body Tryd.f45) [.ptr 0 0] [.cells [.d (.str s), .d (.int .i64 n)]] =
    Tr.val
      (.cnd (decide (n ≥ ↑s.length))
        (.ok ((Out.ret
          (PV.tup
            [PV.d (DV.agg [DV.int IntKind.i64 (0), DV.int IntKind.i64 (0), DV.str []]),
              PV.d (DV.int IntKind.i64 ↑s.length), PV.d (DV.int IntKind.i64 (3))]),
        [PObj.cells [PV.d (DV.str s), PV.d (DV.int IntKind.i64 n)]])))
        (.ok ((Out.ret
          (PV.tup
            [PV.d (DV.agg [DV.int IntKind.i64 (0), DV.int IntKind.i64 (0), DV.str []]),
              PV.d (DV.int IntKind.i64 n), PV.d (DV.int IntKind.i64 (4))]),
        [PObj.cells [PV.d (DV.str s), PV.d (DV.int IntKind.i64 n)]])))) := by kernel_rfl
/-! (*fasti value.reader).take -/
theorem fn77 : FnOk Tryd.prog 77 47 [.tmp 4, .tmp 5] (body Tryd.f77) := ⟨Tryd.f77, Tryd.func77, bodySome _ (by kernel_rfl), by kernel_rfl, by kernel_rfl, by kernel_rfl, by kernel_rfl⟩
theorem run77 (F : Nat) (s l : List UInt8) (n : Int) : runE (ctx F [(37, .pure S37)]) noL 47 [.tmp 4, .tmp 5] (body Tryd.f77) [.ptr 0 0, .d (.str l)] [.cells [.d (.str s), .d (.int .i64 n)]] =
    Tr.val
      (.cnd (decide (n ≥ ↑s.length))
        (.ok ((Out.ret (PV.tup [PV.d (DV.int IntKind.u8 (0)), PV.d (DV.bool false)]),
        [PObj.cells [PV.d (DV.str s), PV.d (DV.int IntKind.i64 n)]])))
        (.chk (decide (0 ≤ n))
        (.chk (decide (n.toNat < s.length))
        (.cnd (decide (idxB l ↑(s.getD n.toNat 0).toNat < 0))
          (.ok ((Out.ret (PV.tup [PV.d (DV.int IntKind.u8 (0)), PV.d (DV.bool false)]),
        [PObj.cells [PV.d (DV.str s), PV.d (DV.int IntKind.i64 n)]])))
          (.chk (decide (0 ≤ IntKind.i64.wrap (IntKind.i64.wrap (n + 1) - 1)))
          (.chk (decide ((IntKind.i64.wrap (IntKind.i64.wrap (n + 1) - 1)).toNat < s.length))
          (.ok ((Out.ret
          (PV.tup
            [PV.d (DV.int IntKind.u8 ↑(s.getD (IntKind.i64.wrap (IntKind.i64.wrap (n + 1) - 1)).toNat 0).toNat),
              PV.d (DV.bool true)]),
        [PObj.cells [PV.d (DV.str s), PV.d (DV.int IntKind.i64 (IntKind.i64.wrap (n + 1)))]]))))))))) := by kernel_rfl
/-! (*fasti value.reader).hex -/
theorem fn98 : FnOk Tryd.prog 98 47 [.tmp 2, .tmp 3] (body Tryd.f98) := ⟨Tryd.f98, Tryd.func98, bodySome _ (by kernel_rfl), by kernel_rfl, by kernel_rfl, by kernel_rfl, by kernel_rfl⟩
theorem run98 (F : Nat) (s : List UInt8) (n : Int) : runE (ctx F [(37, .pure S37), (77, .eff (frameT S77))]) noL 47 [.tmp 2, .tmp 3] (body Tryd.f98) [.ptr 0 0] [.cells [.d (.str s), .d (.int .i64 n)]] =
    Tr.val
      (.chk (decide (0 ≤ n) && decide (n < lim))
      (.cnd (hasB ([48, 49, 55] : List UInt8) s n)
        (.chk (decide (0 ≤ n + 1) && decide (n + 1 < lim))
        (.cnd (hasB ([48, 49, 50, 51, 52, 53, 54, 55, 56, 57, 97, 98, 99, 100, 101, 102] : List UInt8) s (n + 1))
          (.cnd (decide
        (IntKind.u8.wrap
            (IntKind.i64.wrap
              ↑(BitVec.ofInt IntKind.i64.bits
                      (IntKind.i64.wrap
                        (idxB ([48, 49, 50, 51, 52, 53, 54, 55, 56, 57, 97, 98, 99, 100, 101, 102] : List UInt8)
                            (chr s n) *
                          2 ^ min (Int.toNat 4) IntKind.i64.bits)) |||
                    BitVec.ofInt IntKind.i64.bits
                      (idxB ([48, 49, 50, 51, 52, 53, 54, 55, 56, 57, 97, 98, 99, 100, 101, 102] : List UInt8)
                        (chr s (n + 1)))).toNat) =
          10))
            (.ok ((Out.ret (PV.tup [PV.d (DV.int IntKind.u8 (0)), PV.d (DV.bool false)]),
        [PObj.cells [PV.d (DV.str s), PV.d (DV.int IntKind.i64 (IntKind.i64.wrap (n + 1 + 1 - 1)))]])))
            (.cnd (decide
        (IntKind.u8.wrap
            (IntKind.i64.wrap
              ↑(BitVec.ofInt IntKind.i64.bits
                      (IntKind.i64.wrap
                        (idxB ([48, 49, 50, 51, 52, 53, 54, 55, 56, 57, 97, 98, 99, 100, 101, 102] : List UInt8)
                            (chr s n) *
                          2 ^ min (Int.toNat 4) IntKind.i64.bits)) |||
                    BitVec.ofInt IntKind.i64.bits
                      (idxB ([48, 49, 50, 51, 52, 53, 54, 55, 56, 57, 97, 98, 99, 100, 101, 102] : List UInt8)
                        (chr s (n + 1)))).toNat) ≥
          32))
              (.cnd (!decide
          (IntKind.u8.wrap
              (IntKind.i64.wrap
                ↑(BitVec.ofInt IntKind.i64.bits
                        (IntKind.i64.wrap
                          (idxB ([48, 49, 50, 51, 52, 53, 54, 55, 56, 57, 97, 98, 99, 100, 101, 102] : List UInt8)
                              (chr s n) *
                            2 ^ min (Int.toNat 4) IntKind.i64.bits)) |||
                      BitVec.ofInt IntKind.i64.bits
                        (idxB ([48, 49, 50, 51, 52, 53, 54, 55, 56, 57, 97, 98, 99, 100, 101, 102] : List UInt8)
                          (chr s (n + 1)))).toNat) =
            127))
                (.ok ((Out.ret (PV.tup [PV.d (DV.int IntKind.u8 (0)), PV.d (DV.bool false)]),
        [PObj.cells [PV.d (DV.str s), PV.d (DV.int IntKind.i64 (IntKind.i64.wrap (n + 1 + 1 - 1)))]])))
                (.ok ((Out.ret
          (PV.tup
            [PV.d
                (DV.int IntKind.u8
                  (IntKind.u8.wrap
                    (IntKind.i64.wrap
                      ↑(BitVec.ofInt IntKind.i64.bits
                              (IntKind.i64.wrap
                                (idxB
                                    ([48, 49, 50, 51, 52, 53, 54, 55, 56, 57, 97, 98, 99, 100, 101, 102] : List UInt8)
                                    (chr s n) *
                                  2 ^ min (Int.toNat 4) IntKind.i64.bits)) |||
                            BitVec.ofInt IntKind.i64.bits
                              (idxB
                                ([48, 49, 50, 51, 52, 53, 54, 55, 56, 57, 97, 98, 99, 100, 101, 102] : List UInt8)
                                (chr s (n + 1)))).toNat))),
              PV.d (DV.bool true)]),
        [PObj.cells [PV.d (DV.str s), PV.d (DV.int IntKind.i64 (n + 1 + 1))]]))))
              (.ok ((Out.ret
          (PV.tup
            [PV.d
                (DV.int IntKind.u8
                  (IntKind.u8.wrap
                    (IntKind.i64.wrap
                      ↑(BitVec.ofInt IntKind.i64.bits
                              (IntKind.i64.wrap
                                (idxB
                                    ([48, 49, 50, 51, 52, 53, 54, 55, 56, 57, 97, 98, 99, 100, 101, 102] : List UInt8)
                                    (chr s n) *
                                  2 ^ min (Int.toNat 4) IntKind.i64.bits)) |||
                            BitVec.ofInt IntKind.i64.bits
                              (idxB
                                ([48, 49, 50, 51, 52, 53, 54, 55, 56, 57, 97, 98, 99, 100, 101, 102] : List UInt8)
                                (chr s (n + 1)))).toNat))),
              PV.d (DV.bool true)]),
        [PObj.cells [PV.d (DV.str s), PV.d (DV.int IntKind.i64 (n + 1 + 1))]])))))
          (.ok ((Out.ret (PV.tup [PV.d (DV.int IntKind.u8 (0)), PV.d (DV.bool false)]),
        [PObj.cells [PV.d (DV.str s), PV.d (DV.int IntKind.i64 (n + 1))]])))))
        (.ok ((Out.ret (PV.tup [PV.d (DV.int IntKind.u8 (0)), PV.d (DV.bool false)]),
        [PObj.cells [PV.d (DV.str s), PV.d (DV.int IntKind.i64 n)]]))))) := by kernel_rfl
end Go.PS
end

section
namespace Go.PS
open Go.Proofs

theorem wrap64 {x : Int} (h1 : -9223372036854775808 ≤ x) (h2 : x ≤ 9223372036854775807) : IntKind.i64.wrap x = x := IntWalk.i64_in _ (by omega)

theorem cnd_t {R : Type} {b : Bool} {x y : Option R} (h : b = true) : PS.cnd b x y = x := by subst h; rfl
theorem cnd_f {R : Type} {b : Bool} {x y : Option R} (h : b = false) : PS.cnd b x y = y := by subst h; rfl
theorem chk_t {R : Type} {b : Bool} {x : Option R} (h : b = true) : PS.chk b x = x := by subst h; rfl
@[simp] theorem cnd_tt {R : Type} {x y : Option R} : PS.cnd true x y = x := rfl
@[simp] theorem cnd_ff {R : Type} {x y : Option R} : PS.cnd false x y = y := rfl
@[simp] theorem chk_tt {R : Type} {x : Option R} : PS.chk true x = x := rfl
@[simp] theorem chk_ff {R : Type} {x : Option R} : PS.chk false x = none := rfl
theorem cnd_dec {R : Type} {p : Prop} [Decidable p] {x y : Option R} : PS.cnd (decide p) x y = if p then x else y := by by_cases h : p <;> simp [h]
theorem chk_dec {R : Type} {p : Prop} [Decidable p] {x : Option R} : PS.chk (decide p) x = if p then x else none := by by_cases h : p <;> simp [h]

theorem chr_nonneg (s : List UInt8) (n : Int) : 0 ≤ chr s n := by unfold chr; omega
theorem chr_lt (s : List UInt8) (n : Int) : chr s n < 256 := by
  unfold chr
  have := (s.getD n.toNat 0).toNat_lt
  omega

theorem idxB_byte (l : List UInt8) (b : UInt8) : idxB l (b.toNat : Int) = Lib.indexByte l b := by
  unfold idxB
  congr 1
  simp

theorem byte_all {p : UInt8 → Prop} (h : ∀ n : Fin 256, p (UInt8.ofNat n.val)) (b : UInt8) : p b := by
  have := h ⟨b.toNat, b.toNat_lt⟩
  simpa using this

/-! the reader's small functions -/
theorem ok45 (W0 : World) : EKOk Tryd.prog W0 45 (.eff (frameT S45)) := by
  refine eff_of (tyOk 0 []) (look_ok all_nil) mixed fn45 (lpsOk_no _ _) fun args H r h => ?_
  unfold S45 at h
  split at h
  · rename_i s n
    refine (run45 0 s n).trans ?_
    rw [← h]
    by_cases hn : n < s.length
    · have : ¬ (n ≥ (s.length : Int)) := by omega
      simp [Tr.val_ok, Tr.val_cnd, failN, failE, hn, this]
    · have : n ≥ (s.length : Int) := by omega
      simp [Tr.val_ok, Tr.val_cnd, failN, failE, hn, this]
  · simp [Tr.val_no] at h
end Go.PS
end

section
namespace Go.PS
open Go.Proofs

theorem lim_ok {n m : Int} (h0 : 0 ≤ n) (h1 : m < 4611686018427387904) : (decide (0 ≤ n) && decide (m < lim)) = true := by
  rw [Bool.and_eq_true, decide_eq_true_eq, decide_eq_true_eq]
  exact ⟨h0, h1⟩

theorem hasB_iff (l s : List UInt8) (n : Int) : hasB l s n = true ↔ n.toNat < s.length ∧ 0 ≤ idxB l (chr s n) := by
  unfold hasB; simp

theorem ok77 (W0 : World) : EKOk Tryd.prog W0 77 (.eff (frameT S77)) := by
  refine eff_of (tyOk 0 [(37, .pure S37)]) (look_ok (all_cons ok37 all_nil)) mixed fn77 (lpsOk_no _ _) fun args H r h => ?_
  unfold S77 at h
  split at h
  · rename_i l s n
    refine (run77 0 s l n).trans ?_
    rw [← h]
    simp only [Tr.val_chk, chk_some, Bool.and_eq_true, decide_eq_true_eq] at h
    obtain ⟨⟨h0, h1⟩, _⟩ := h
    unfold lim at h1
    have w1 : IntKind.i64.wrap (n + 1) = n + 1 := wrap64 (by omega) (by omega)
    have w2 : IntKind.i64.wrap (n + 1 - 1) = n := (wrap64 (x := n + 1 - 1) (by omega) (by omega)).trans (by omega)
    simp only [Tr.val_ok, Tr.val_cnd, Tr.val_chk, w1, w2]
    have hc : ((s.getD n.toNat 0).toNat : Int) = chr s n := rfl
    rw [hc]
    rw [chk_t (lim_ok h0 h1)]
    by_cases hn : n < s.length
    · have h2 : ¬ (n ≥ (s.length : Int)) := by omega
      have h3 : n.toNat < s.length := by omega
      by_cases hi : 0 ≤ idxB l (chr s n)
      · have h4 : ¬ (idxB l (chr s n) < 0) := by omega
        rw [cnd_t ((hasB_iff l s n).2 ⟨h3, hi⟩)]
        simp [h2, h3, h0, h4]
      · have h4 : idxB l (chr s n) < 0 := by omega
        rw [cnd_f (b := hasB l s n) (by cases hb : hasB l s n with | false => rfl | true => exact absurd ((hasB_iff l s n).1 hb).2 hi)]
        simp [h2, h3, h0, h4]
    · have h2 : n ≥ (s.length : Int) := by omega
      rw [cnd_f (b := hasB l s n) (by cases hb : hasB l s n with | false => rfl | true => have := ((hasB_iff l s n).1 hb).1; omega)]
      simp [h2]
  · simp [Tr.val_no] at h

/-! a rune that is written by its number -/
def low (b : Int) : Int := if 48 ≤ b ∧ b ≤ 57 then b - 48 else if 97 ≤ b ∧ b ≤ 102 then b - 87 else -1
def hexDigits : List UInt8 := [48, 49, 50, 51, 52, 53, 54, 55, 56, 57, 97, 98, 99, 100, 101, 102]
set_option maxRecDepth 100000 in
theorem idx_hex (b : UInt8) : Lib.indexByte hexDigits b = low b.toNat :=
  byte_all (p := fun b => Lib.indexByte hexDigits b = low b.toNat) (by decide) b
set_option maxRecDepth 100000 in
theorem idx_017 (b : UInt8) : Lib.indexByte [48, 49, 55] b = if b.toNat = 48 then 0 else if b.toNat = 49 then 1 else if b.toNat = 55 then 2 else -1 :=
  byte_all (p := fun b => Lib.indexByte [48, 49, 55] b = if b.toNat = 48 then 0 else if b.toNat = 49 then 1 else if b.toNat = 55 then 2 else -1) (by decide) b
set_option maxRecDepth 100000 in
theorem idx_esc (b : UInt8) : Lib.indexByte [34, 92, 110, 120] b = if b.toNat = 34 then 0 else if b.toNat = 92 then 1 else if b.toNat = 110 then 2 else if b.toNat = 120 then 3 else -1 :=
  byte_all (p := fun b => Lib.indexByte [34, 92, 110, 120] b = if b.toNat = 34 then 0 else if b.toNat = 92 then 1 else if b.toNat = 110 then 2 else if b.toNat = 120 then 3 else -1) (by decide) b
theorem idx_chr (l s : List UInt8) (n : Int) : idxB l (chr s n) = Lib.indexByte l (s.getD n.toNat 0) := idxB_byte l _

/-- may a byte not be written by its number -/
def escBad (b : Int) : Bool := decide (b = 10) || (decide (32 ≤ b) && decide (b ≠ 127))
/-- the first digit of two -/
def high (b : Int) : Bool := decide (b = 48) || decide (b = 49) || decide (b = 55)
def hex1 (s : List UInt8) (n : Int) : Bool := decide (n < s.length) && high (chr s n)
def hex2 (s : List UInt8) (n : Int) : Bool := decide (n + 1 < s.length) && decide (0 ≤ low (chr s (n + 1)))
def hexB (s : List UInt8) (n : Int) : Int := 16 * low (chr s n) + low (chr s (n + 1))
/-- the byte; below 0: none -/
def hexV (s : List UInt8) (n : Int) : Int := if hex1 s n then (if hex2 s n then (if escBad (hexB s n) then -1 else hexB s n) else -1) else -1
/-- the place behind it, or the one that is not right -/
def hexTo (s : List UInt8) (n : Int) : Int := if hex1 s n then (if hex2 s n then (if escBad (hexB s n) then n + 1 else n + 2) else n + 1) else n

def S98 : List PV → List PObj → Tr (Out × List PObj)
  | [.ptr 0 0], [.cells [.d (.str s), .d (.int .i64 n)]] =>
    .chk (decide (0 ≤ n) && decide (n + 2 < lim)) (.ok (.ret (.tup [.d (.int .u8 (if hexV s n < 0 then 0 else hexV s n)), .d (.bool (decide (0 ≤ hexV s n)))]), [.cells [.d (.str s), .d (.int .i64 (hexTo s n))]]))
  | _, _ => .no

theorem hex1_iff (s : List UInt8) (n : Int) (h0 : 0 ≤ n) : hasB [48, 49, 55] s n = hex1 s n := by
  rw [Bool.eq_iff_iff, hasB_iff, idx_chr, idx_017]
  unfold hex1 high
  have hc : chr s n = ((s.getD n.toNat 0).toNat : Int) := rfl
  rw [hc]
  simp only [Bool.and_eq_true, Bool.or_eq_true, decide_eq_true_eq]
  generalize (s.getD n.toNat 0).toNat = b
  repeat' split
  all_goals omega

theorem hex2_iff (s : List UInt8) (n : Int) (h0 : 0 ≤ n) : hasB hexDigits s (n + 1) = hex2 s n := by
  rw [Bool.eq_iff_iff, hasB_iff, idx_chr, idx_hex]
  unfold hex2
  have hc : chr s (n + 1) = ((s.getD (n + 1).toNat 0).toNat : Int) := rfl
  rw [hc]
  simp only [Bool.and_eq_true, decide_eq_true_eq]
  constructor
  · rintro ⟨h1, h2⟩; exact ⟨by omega, h2⟩
  · rintro ⟨h1, h2⟩; exact ⟨by omega, h2⟩

theorem orB (h l : Int) (h1 : h = 0 ∨ h = 1 ∨ h = 7) (h2 : 0 ≤ l) (h3 : l < 16) : IntKind.u8.wrap (IntKind.i64.wrap ↑(BitVec.ofInt IntKind.i64.bits (IntKind.i64.wrap (h * 2 ^ min (Int.toNat 4) IntKind.i64.bits)) ||| BitVec.ofInt IntKind.i64.bits l).toNat) = 16 * h + l := by
  obtain ⟨m, rfl⟩ := Int.eq_ofNat_of_zero_le h2
  have key : ∀ m : Fin 16, ∀ h : Int, (h = 0 ∨ h = 1 ∨ h = 7) → IntKind.u8.wrap (IntKind.i64.wrap ↑(BitVec.ofInt IntKind.i64.bits (IntKind.i64.wrap (h * 2 ^ min (Int.toNat 4) IntKind.i64.bits)) ||| BitVec.ofInt IntKind.i64.bits (m.val : Int)).toNat) = 16 * h + (m.val : Int) := by
    intro m h hh
    rcases hh with rfl | rfl | rfl <;> revert m <;> decide
  exact key ⟨m, by omega⟩ h h1

theorem ok98 (W0 : World) : EKOk Tryd.prog W0 98 (.eff (frameT S98)) := by
  refine eff_of (tyOk 0 [(37, .pure S37), (77, .eff (frameT S77))]) (look_ok (all_cons ok37 (all_cons (ok77 W0) all_nil))) mixed fn98 (lpsOk_no _ _) fun args H r h => ?_
  unfold S98 at h
  split at h
  · rename_i s n
    refine (run98 0 s n).trans ?_
    rw [← h]
    simp only [Tr.val_chk, chk_some, Bool.and_eq_true, decide_eq_true_eq] at h
    obtain ⟨⟨h0, h1⟩, _⟩ := h
    unfold lim at h1
    simp only [Tr.val_ok, Tr.val_cnd, Tr.val_chk]
    rw [show ([48, 49, 50, 51, 52, 53, 54, 55, 56, 57, 97, 98, 99, 100, 101, 102] : List UInt8) = hexDigits from rfl, hex1_iff s n h0, hex2_iff s n h0]
    rw [chk_t (lim_ok h0 (m := n) (by omega)), chk_t (lim_ok h0 (m := n + 2) h1)]
    by_cases g1 : hex1 s n = true
    · by_cases g2 : hex2 s n = true
      · have i1 : idxB hexDigits (chr s n) = low (chr s n) := by rw [idx_chr, idx_hex]; rfl
        have i2 : idxB hexDigits (chr s (n + 1)) = low (chr s (n + 1)) := by rw [idx_chr, idx_hex]; rfl
        have hb : IntKind.u8.wrap (IntKind.i64.wrap ↑(BitVec.ofInt IntKind.i64.bits (IntKind.i64.wrap (idxB hexDigits (chr s n) * 2 ^ min (Int.toNat 4) IntKind.i64.bits)) ||| BitVec.ofInt IntKind.i64.bits (idxB hexDigits (chr s (n + 1)))).toNat) = hexB s n := by
          rw [i1, i2]
          refine orB _ _ ?_ ?_ ?_
          · have := (Bool.and_eq_true_iff.1 g1).2
            unfold high at this
            simp only [Bool.or_eq_true, decide_eq_true_eq] at this
            unfold low
            repeat' split
            all_goals omega
          · simpa using (Bool.and_eq_true_iff.1 g2).2
          · unfold low
            repeat' split
            all_goals omega
        rw [hb]
        have hw : IntKind.i64.wrap (n + 1 + 1 - 1) = n + 1 := (wrap64 (x := n + 1 + 1 - 1) (by omega) (by omega)).trans (by omega)
        rw [hw]
        have hn : 0 ≤ hexB s n := by
          have := (Bool.and_eq_true_iff.1 g2).2
          simp only [decide_eq_true_eq] at this
          have h3 := (Bool.and_eq_true_iff.1 g1).2
          unfold high at h3
          simp only [Bool.or_eq_true, decide_eq_true_eq] at h3
          unfold hexB
          have : 0 ≤ low (chr s n) := by
            unfold low
            repeat' split
            all_goals omega
          omega
        rw [cnd_t g1, cnd_t g2, chk_t (lim_ok (n := n + 1) (m := n + 1) (by omega) (by omega))]
        by_cases b10 : hexB s n = 10
        · have hbad : escBad (hexB s n) = true := by simp [escBad, b10]
          simp only [hexV, hexTo, g1, g2, hbad, if_true, if_false, Bool.false_eq_true]
          simp [b10]
        · by_cases b32 : 32 ≤ hexB s n
          · by_cases b127 : hexB s n = 127
            · have hbad : escBad (hexB s n) = false := by simp [escBad, b127]
              have e2 : n + 2 = n + 1 + 1 := by omega
              simp only [hexV, hexTo, g1, g2, hbad, if_true, if_false, Bool.false_eq_true]
              simp [b127, e2]
            · have hbad : escBad (hexB s n) = true := by simp [escBad, b10, b32, b127]
              have : hexB s n ≥ 32 := b32
              simp only [hexV, hexTo, g1, g2, hbad, if_true, if_false, Bool.false_eq_true]
              simp [b10, this, b127]
          · have hbad : escBad (hexB s n) = false := by simp [escBad, b10, b32]
            have h3 : ¬ (hexB s n ≥ 32) := b32
            have h4 : ¬ (hexB s n < 0) := by omega
            have e2 : n + 2 = n + 1 + 1 := by omega
            simp only [hexV, hexTo, g1, g2, hbad, if_true, if_false, Bool.false_eq_true]
            simp [b10, h3, h4, hn, e2]
      · simp only [Bool.not_eq_true] at g2
        rw [cnd_t g1, cnd_f g2, chk_t (lim_ok (n := n + 1) (m := n + 1) (by omega) (by omega))]
        simp [hexV, hexTo, g1, g2]
    · simp only [Bool.not_eq_true] at g1
      rw [cnd_f g1]
      simp [hexV, hexTo, g1]
  · simp [Tr.val_no] at h
end Go.PS
end

section
namespace Go.PS
open Go.Proofs
/-! what is written behind a backslash: the byte (below 0: none), and the place behind it, or the one that is not right -/
def escV (s : List UInt8) (n : Int) : Int :=
  if n < s.length then (if chr s n = 34 then 34 else if chr s n = 92 then 92 else if chr s n = 110 then 10 else if chr s n = 120 then hexV s (n + 1) else -1) else -1
def escTo (s : List UInt8) (n : Int) : Int :=
  if n < s.length then (if chr s n = 34 then n + 1 else if chr s n = 92 then n + 1 else if chr s n = 110 then n + 1 else if chr s n = 120 then hexTo s (n + 1) else n) else n
def S76 : List PV → List PObj → Tr (Out × List PObj)
  | [.ptr 0 0], [.cells [.d (.str s), .d (.int .i64 n)]] =>
    .chk (decide (0 ≤ n) && decide (n + 3 < lim)) (.ok (.ret (.tup [.d (.int .u8 (if escV s n < 0 then 0 else escV s n)), .d (.bool (decide (0 ≤ escV s n)))]), [.cells [.d (.str s), .d (.int .i64 (escTo s n))]]))
  | _, _ => .no
def isDigit (b : Int) : Bool := decide (48 ≤ b) && decide (b ≤ 57)
def S47 : List PV → Tr PV
  | [.d (.int .u8 b)] => .ok (.d (.bool (isDigit b)))
  | _ => .no
def S101 : List PV → Tr PV
  | [.d (.int .u8 b)] => .chk (decide (0 ≤ b) && decide (b < 256)) (.ok (.d (.int .i64 (low b))))
  | _ => .no
def S79 : List PV → Tr PV
  | [.d (.str s), .d (.int .i64 n)] => .chk (decide (0 ≤ n) && decide (n + 3 < lim)) (.ok (.tup [.d (.int .i64 (escV s n)), .d (.int .i64 (escTo s n))]))
  | _ => .no
def S80 : List PV → Tr PV
  | [.d (.str s), .d (.int .i64 n)] => .ok (.tup [.d (.agg [.int .i64 0, .int .i64 0, .str []]), .d (.int .i64 (failN s n)), .d (.int .i64 (failE s n))])
  | _ => .no
end Go.PS
end

section
namespace Go.PS
open Go.Proofs
set_option maxRecDepth 100000
/-! (*fasti value.reader).escape -/
theorem fn76 : FnOk Tryd.prog 76 25 [.tmp 2, .tmp 3] (body Tryd.f76) := ⟨Tryd.f76, Tryd.func76, bodySome _ (by kernel_rfl), by kernel_rfl, by kernel_rfl, by kernel_rfl, by kernel_rfl⟩
theorem run76 (F : Nat) (s : List UInt8) (n : Int) : runE (ctx F [(77, .eff (frameT S77)), (98, .eff (frameT S98))]) noL 25 [.tmp 2, .tmp 3] (body Tryd.f76) [.ptr 0 0] [.cells [.d (.str s), .d (.int .i64 n)]] =
    Tr.val
      (.chk (decide (0 ≤ n) && decide (n < lim))
      (.cnd (hasB ([34, 92, 110, 120] : List UInt8) s n)
        (.cnd (decide (chr s n = 110))
          (.ok ((Out.ret (PV.tup [PV.d (DV.int IntKind.u8 (10)), PV.d (DV.bool true)]),
        [PObj.cells [PV.d (DV.str s), PV.d (DV.int IntKind.i64 (n + 1))]])))
          (.cnd (decide (chr s n = 120))
            (.chk (decide (0 ≤ n + 1) && decide (n + 1 + 2 < lim))
            (.ok ((Out.ret
          (PV.tup
            [PV.d (DV.int IntKind.u8 (if hexV s (n + 1) < 0 then 0 else hexV s (n + 1))),
              PV.d (DV.bool (decide (0 ≤ hexV s (n + 1))))]),
        [PObj.cells [PV.d (DV.str s), PV.d (DV.int IntKind.i64 (hexTo s (n + 1)))]]))))
            (.ok ((Out.ret (PV.tup [PV.d (DV.int IntKind.u8 (chr s n)), PV.d (DV.bool true)]),
        [PObj.cells [PV.d (DV.str s), PV.d (DV.int IntKind.i64 (n + 1))]])))))
        (.ok ((Out.ret (PV.tup [PV.d (DV.int IntKind.u8 (0)), PV.d (DV.bool false)]),
        [PObj.cells [PV.d (DV.str s), PV.d (DV.int IntKind.i64 n)]]))))) := by kernel_rfl
/-! fasti fastiref01.digit -/
theorem fn47 : FnOk Tryd.prog 47 9 [.tmp 2] (body Tryd.f47) := ⟨Tryd.f47, Tryd.func47, bodySome _ (by kernel_rfl), by kernel_rfl, by kernel_rfl, by kernel_rfl, by kernel_rfl⟩
theorem run47 (F : Nat) (b : Int) : runP (ctx F []) noL 9 [.tmp 2] (body Tryd.f47) [.d (.int .u8 b)] =
    Tr.val
      (.cnd (decide (b ≥ 48))
        (.ok (PV.d (DV.bool (decide (b ≤ 57)))))
        (.ok (PV.d (DV.bool false)))) := by kernel_rfl
/-! fasti fastiref01.low -/
theorem fn101 : FnOk Tryd.prog 101 20 [.tmp 2] (body Tryd.f101) := ⟨Tryd.f101, Tryd.func101, bodySome _ (by kernel_rfl), by kernel_rfl, by kernel_rfl, by kernel_rfl, by kernel_rfl⟩
theorem run101 (F : Nat) (b : Int) : runP (ctx F [(47, .pure S47)]) noL 20 [.tmp 2] (body Tryd.f101) [.d (.int .u8 b)] =
    Tr.val
      (.cnd (isDigit b)
        (.ok (PV.d (DV.int IntKind.i64 (IntKind.i64.wrap (IntKind.u8.wrap (b - 48))))))
        (.cnd (decide (b ≥ 97))
          (.cnd (decide (b ≤ 102))
            (.ok (PV.d (DV.int IntKind.i64 (IntKind.i64.wrap (IntKind.i64.wrap (IntKind.u8.wrap (b - 97)) + 10)))))
            (.ok (PV.d (DV.int IntKind.i64 (Int.negSucc 0)))))
          (.ok (PV.d (DV.int IntKind.i64 (Int.negSucc 0)))))) := by kernel_rfl
/-! fasti fastiref01.escape -/
theorem fn79 : FnOk Tryd.prog 79 101 [.tmp 4, .tmp 5] (body Tryd.f79) := ⟨Tryd.f79, Tryd.func79, bodySome _ (by kernel_rfl), by kernel_rfl, by kernel_rfl, by kernel_rfl, by kernel_rfl⟩
theorem run79 (F : Nat) (s : List UInt8) (n : Int) : runP (ctx F [(101, .pure S101)]) noL 101 [.tmp 4, .tmp 5] (body Tryd.f79) [.d (.str s), .d (.int .i64 n)] =
    Tr.val
      (.cnd (decide (n ≥ (↑s.length : Int)))
        (.ok (PV.tup [PV.d (DV.int IntKind.i64 (Int.negSucc 0)), PV.d (DV.int IntKind.i64 n)]))
        (.chk (decide (0 ≤ n))
        (.chk (decide (n.toNat < s.length))
        (.cnd (decide ((↑(s.getD n.toNat 0).toNat : Int) = 34))
          (.chk (decide (0 ≤ n))
          (.chk (decide (n.toNat < s.length))
          (.ok (PV.tup
        [PV.d (DV.int IntKind.i64 (IntKind.i64.wrap (↑(s.getD n.toNat 0).toNat : Int))),
          PV.d (DV.int IntKind.i64 (IntKind.i64.wrap (n + 1)))]))))
          (.cnd (decide ((↑(s.getD n.toNat 0).toNat : Int) = 92))
            (.chk (decide (0 ≤ n))
            (.chk (decide (n.toNat < s.length))
            (.ok (PV.tup
        [PV.d (DV.int IntKind.i64 (IntKind.i64.wrap (↑(s.getD n.toNat 0).toNat : Int))),
          PV.d (DV.int IntKind.i64 (IntKind.i64.wrap (n + 1)))]))))
            (.cnd (decide ((↑(s.getD n.toNat 0).toNat : Int) = 110))
              (.ok (PV.tup [PV.d (DV.int IntKind.i64 (10)), PV.d (DV.int IntKind.i64 (IntKind.i64.wrap (n + 1)))]))
              (.cnd (decide ((↑(s.getD n.toNat 0).toNat : Int) = 120))
                (.cnd (decide (IntKind.i64.wrap (n + 1) ≥ (↑s.length : Int)))
                  (.ok (PV.tup [PV.d (DV.int IntKind.i64 (Int.negSucc 0)), PV.d (DV.int IntKind.i64 (IntKind.i64.wrap (n + 1)))]))
                  (.chk (decide (0 ≤ IntKind.i64.wrap (n + 1)))
                  (.chk (decide ((IntKind.i64.wrap (n + 1)).toNat < s.length))
                  (.cnd (!decide ((↑(s.getD (IntKind.i64.wrap (n + 1)).toNat 0).toNat : Int) = 48))
                    (.chk (decide (0 ≤ IntKind.i64.wrap (n + 1)))
                    (.chk (decide ((IntKind.i64.wrap (n + 1)).toNat < s.length))
                    (.cnd (!decide ((↑(s.getD (IntKind.i64.wrap (n + 1)).toNat 0).toNat : Int) = 49))
                      (.chk (decide (0 ≤ IntKind.i64.wrap (n + 1)))
                      (.chk (decide ((IntKind.i64.wrap (n + 1)).toNat < s.length))
                      (.cnd (!decide ((↑(s.getD (IntKind.i64.wrap (n + 1)).toNat 0).toNat : Int) = 55))
                        (.ok (PV.tup [PV.d (DV.int IntKind.i64 (Int.negSucc 0)), PV.d (DV.int IntKind.i64 (IntKind.i64.wrap (n + 1)))]))
                        (.cnd (decide (IntKind.i64.wrap (n + 2) ≥ (↑s.length : Int)))
                          (.ok (PV.tup [PV.d (DV.int IntKind.i64 (Int.negSucc 0)), PV.d (DV.int IntKind.i64 (IntKind.i64.wrap (n + 2)))]))
                          (.chk (decide (0 ≤ IntKind.i64.wrap (n + 2)))
                          (.chk (decide ((IntKind.i64.wrap (n + 2)).toNat < s.length))
                          (.chk (decide (0 ≤ (↑(s.getD (IntKind.i64.wrap (n + 2)).toNat 0).toNat : Int)) &&
        decide ((↑(s.getD (IntKind.i64.wrap (n + 2)).toNat 0).toNat : Int) < 256))
                          (.cnd (decide (low (↑(s.getD (IntKind.i64.wrap (n + 2)).toNat 0).toNat : Int) < 0))
                            (.ok (PV.tup [PV.d (DV.int IntKind.i64 (Int.negSucc 0)), PV.d (DV.int IntKind.i64 (IntKind.i64.wrap (n + 2)))]))
                            (.chk (decide (0 ≤ IntKind.i64.wrap (n + 1)))
                            (.chk (decide ((IntKind.i64.wrap (n + 1)).toNat < s.length))
                            (.chk (decide (0 ≤ (↑(s.getD (IntKind.i64.wrap (n + 1)).toNat 0).toNat : Int)) &&
        decide ((↑(s.getD (IntKind.i64.wrap (n + 1)).toNat 0).toNat : Int) < 256))
                            (.chk (decide (0 ≤ IntKind.i64.wrap (n + 2)))
                            (.chk (decide ((IntKind.i64.wrap (n + 2)).toNat < s.length))
                            (.chk (decide (0 ≤ (↑(s.getD (IntKind.i64.wrap (n + 2)).toNat 0).toNat : Int)) &&
        decide ((↑(s.getD (IntKind.i64.wrap (n + 2)).toNat 0).toNat : Int) < 256))
                            (.cnd (decide
        (IntKind.i64.wrap
            (IntKind.i64.wrap (16 * low (↑(s.getD (IntKind.i64.wrap (n + 1)).toNat 0).toNat : Int)) +
              low (↑(s.getD (IntKind.i64.wrap (n + 2)).toNat 0).toNat : Int)) =
          10))
                              (.ok (PV.tup [PV.d (DV.int IntKind.i64 (Int.negSucc 0)), PV.d (DV.int IntKind.i64 (IntKind.i64.wrap (n + 2)))]))
                              (.cnd (decide
        (IntKind.i64.wrap
            (IntKind.i64.wrap (16 * low (↑(s.getD (IntKind.i64.wrap (n + 1)).toNat 0).toNat : Int)) +
              low (↑(s.getD (IntKind.i64.wrap (n + 2)).toNat 0).toNat : Int)) ≥
          32))
                                (.cnd (!decide
          (IntKind.i64.wrap
              (IntKind.i64.wrap (16 * low (↑(s.getD (IntKind.i64.wrap (n + 1)).toNat 0).toNat : Int)) +
                low (↑(s.getD (IntKind.i64.wrap (n + 2)).toNat 0).toNat : Int)) =
            127))
                                  (.ok (PV.tup [PV.d (DV.int IntKind.i64 (Int.negSucc 0)), PV.d (DV.int IntKind.i64 (IntKind.i64.wrap (n + 2)))]))
                                  (.ok (PV.tup
        [PV.d
            (DV.int IntKind.i64
              (IntKind.i64.wrap
                (IntKind.i64.wrap (16 * low (↑(s.getD (IntKind.i64.wrap (n + 1)).toNat 0).toNat : Int)) +
                  low (↑(s.getD (IntKind.i64.wrap (n + 2)).toNat 0).toNat : Int)))),
          PV.d (DV.int IntKind.i64 (IntKind.i64.wrap (n + 3)))])))
                                (.ok (PV.tup
        [PV.d
            (DV.int IntKind.i64
              (IntKind.i64.wrap
                (IntKind.i64.wrap (16 * low (↑(s.getD (IntKind.i64.wrap (n + 1)).toNat 0).toNat : Int)) +
                  low (↑(s.getD (IntKind.i64.wrap (n + 2)).toNat 0).toNat : Int)))),
          PV.d (DV.int IntKind.i64 (IntKind.i64.wrap (n + 3)))]))))))))))))))))))
                      (.cnd (decide (IntKind.i64.wrap (n + 2) ≥ (↑s.length : Int)))
                        (.ok (PV.tup [PV.d (DV.int IntKind.i64 (Int.negSucc 0)), PV.d (DV.int IntKind.i64 (IntKind.i64.wrap (n + 2)))]))
                        (.chk (decide (0 ≤ IntKind.i64.wrap (n + 2)))
                        (.chk (decide ((IntKind.i64.wrap (n + 2)).toNat < s.length))
                        (.chk (decide (0 ≤ (↑(s.getD (IntKind.i64.wrap (n + 2)).toNat 0).toNat : Int)) &&
        decide ((↑(s.getD (IntKind.i64.wrap (n + 2)).toNat 0).toNat : Int) < 256))
                        (.cnd (decide (low (↑(s.getD (IntKind.i64.wrap (n + 2)).toNat 0).toNat : Int) < 0))
                          (.ok (PV.tup [PV.d (DV.int IntKind.i64 (Int.negSucc 0)), PV.d (DV.int IntKind.i64 (IntKind.i64.wrap (n + 2)))]))
                          (.chk (decide (0 ≤ IntKind.i64.wrap (n + 1)))
                          (.chk (decide ((IntKind.i64.wrap (n + 1)).toNat < s.length))
                          (.chk (decide (0 ≤ (↑(s.getD (IntKind.i64.wrap (n + 1)).toNat 0).toNat : Int)) &&
        decide ((↑(s.getD (IntKind.i64.wrap (n + 1)).toNat 0).toNat : Int) < 256))
                          (.chk (decide (0 ≤ IntKind.i64.wrap (n + 2)))
                          (.chk (decide ((IntKind.i64.wrap (n + 2)).toNat < s.length))
                          (.chk (decide (0 ≤ (↑(s.getD (IntKind.i64.wrap (n + 2)).toNat 0).toNat : Int)) &&
        decide ((↑(s.getD (IntKind.i64.wrap (n + 2)).toNat 0).toNat : Int) < 256))
                          (.cnd (decide
        (IntKind.i64.wrap
            (IntKind.i64.wrap (16 * low (↑(s.getD (IntKind.i64.wrap (n + 1)).toNat 0).toNat : Int)) +
              low (↑(s.getD (IntKind.i64.wrap (n + 2)).toNat 0).toNat : Int)) =
          10))
                            (.ok (PV.tup [PV.d (DV.int IntKind.i64 (Int.negSucc 0)), PV.d (DV.int IntKind.i64 (IntKind.i64.wrap (n + 2)))]))
                            (.cnd (decide
        (IntKind.i64.wrap
            (IntKind.i64.wrap (16 * low (↑(s.getD (IntKind.i64.wrap (n + 1)).toNat 0).toNat : Int)) +
              low (↑(s.getD (IntKind.i64.wrap (n + 2)).toNat 0).toNat : Int)) ≥
          32))
                              (.cnd (!decide
          (IntKind.i64.wrap
              (IntKind.i64.wrap (16 * low (↑(s.getD (IntKind.i64.wrap (n + 1)).toNat 0).toNat : Int)) +
                low (↑(s.getD (IntKind.i64.wrap (n + 2)).toNat 0).toNat : Int)) =
            127))
                                (.ok (PV.tup [PV.d (DV.int IntKind.i64 (Int.negSucc 0)), PV.d (DV.int IntKind.i64 (IntKind.i64.wrap (n + 2)))]))
                                (.ok (PV.tup
        [PV.d
            (DV.int IntKind.i64
              (IntKind.i64.wrap
                (IntKind.i64.wrap (16 * low (↑(s.getD (IntKind.i64.wrap (n + 1)).toNat 0).toNat : Int)) +
                  low (↑(s.getD (IntKind.i64.wrap (n + 2)).toNat 0).toNat : Int)))),
          PV.d (DV.int IntKind.i64 (IntKind.i64.wrap (n + 3)))])))
                              (.ok (PV.tup
        [PV.d
            (DV.int IntKind.i64
              (IntKind.i64.wrap
                (IntKind.i64.wrap (16 * low (↑(s.getD (IntKind.i64.wrap (n + 1)).toNat 0).toNat : Int)) +
                  low (↑(s.getD (IntKind.i64.wrap (n + 2)).toNat 0).toNat : Int)))),
          PV.d (DV.int IntKind.i64 (IntKind.i64.wrap (n + 3)))]))))))))))))))))))
                    (.cnd (decide (IntKind.i64.wrap (n + 2) ≥ (↑s.length : Int)))
                      (.ok (PV.tup [PV.d (DV.int IntKind.i64 (Int.negSucc 0)), PV.d (DV.int IntKind.i64 (IntKind.i64.wrap (n + 2)))]))
                      (.chk (decide (0 ≤ IntKind.i64.wrap (n + 2)))
                      (.chk (decide ((IntKind.i64.wrap (n + 2)).toNat < s.length))
                      (.chk (decide (0 ≤ (↑(s.getD (IntKind.i64.wrap (n + 2)).toNat 0).toNat : Int)) &&
        decide ((↑(s.getD (IntKind.i64.wrap (n + 2)).toNat 0).toNat : Int) < 256))
                      (.cnd (decide (low (↑(s.getD (IntKind.i64.wrap (n + 2)).toNat 0).toNat : Int) < 0))
                        (.ok (PV.tup [PV.d (DV.int IntKind.i64 (Int.negSucc 0)), PV.d (DV.int IntKind.i64 (IntKind.i64.wrap (n + 2)))]))
                        (.chk (decide (0 ≤ IntKind.i64.wrap (n + 1)))
                        (.chk (decide ((IntKind.i64.wrap (n + 1)).toNat < s.length))
                        (.chk (decide (0 ≤ (↑(s.getD (IntKind.i64.wrap (n + 1)).toNat 0).toNat : Int)) &&
        decide ((↑(s.getD (IntKind.i64.wrap (n + 1)).toNat 0).toNat : Int) < 256))
                        (.chk (decide (0 ≤ IntKind.i64.wrap (n + 2)))
                        (.chk (decide ((IntKind.i64.wrap (n + 2)).toNat < s.length))
                        (.chk (decide (0 ≤ (↑(s.getD (IntKind.i64.wrap (n + 2)).toNat 0).toNat : Int)) &&
        decide ((↑(s.getD (IntKind.i64.wrap (n + 2)).toNat 0).toNat : Int) < 256))
                        (.cnd (decide
        (IntKind.i64.wrap
            (IntKind.i64.wrap (16 * low (↑(s.getD (IntKind.i64.wrap (n + 1)).toNat 0).toNat : Int)) +
              low (↑(s.getD (IntKind.i64.wrap (n + 2)).toNat 0).toNat : Int)) =
          10))
                          (.ok (PV.tup [PV.d (DV.int IntKind.i64 (Int.negSucc 0)), PV.d (DV.int IntKind.i64 (IntKind.i64.wrap (n + 2)))]))
                          (.cnd (decide
        (IntKind.i64.wrap
            (IntKind.i64.wrap (16 * low (↑(s.getD (IntKind.i64.wrap (n + 1)).toNat 0).toNat : Int)) +
              low (↑(s.getD (IntKind.i64.wrap (n + 2)).toNat 0).toNat : Int)) ≥
          32))
                            (.cnd (!decide
          (IntKind.i64.wrap
              (IntKind.i64.wrap (16 * low (↑(s.getD (IntKind.i64.wrap (n + 1)).toNat 0).toNat : Int)) +
                low (↑(s.getD (IntKind.i64.wrap (n + 2)).toNat 0).toNat : Int)) =
            127))
                              (.ok (PV.tup [PV.d (DV.int IntKind.i64 (Int.negSucc 0)), PV.d (DV.int IntKind.i64 (IntKind.i64.wrap (n + 2)))]))
                              (.ok (PV.tup
        [PV.d
            (DV.int IntKind.i64
              (IntKind.i64.wrap
                (IntKind.i64.wrap (16 * low (↑(s.getD (IntKind.i64.wrap (n + 1)).toNat 0).toNat : Int)) +
                  low (↑(s.getD (IntKind.i64.wrap (n + 2)).toNat 0).toNat : Int)))),
          PV.d (DV.int IntKind.i64 (IntKind.i64.wrap (n + 3)))])))
                            (.ok (PV.tup
        [PV.d
            (DV.int IntKind.i64
              (IntKind.i64.wrap
                (IntKind.i64.wrap (16 * low (↑(s.getD (IntKind.i64.wrap (n + 1)).toNat 0).toNat : Int)) +
                  low (↑(s.getD (IntKind.i64.wrap (n + 2)).toNat 0).toNat : Int)))),
          PV.d (DV.int IntKind.i64 (IntKind.i64.wrap (n + 3)))])))))))))))))))))))
                (.ok (PV.tup [PV.d (DV.int IntKind.i64 (Int.negSucc 0)), PV.d (DV.int IntKind.i64 n)]))))))))) := by kernel_rfl
/-! fasti fastiref01.stop -/
theorem fn80 : FnOk Tryd.prog 80 16 [.cell 4 33, .tmp 5, .tmp 6] (body Tryd.f80) := ⟨Tryd.f80, Tryd.func80, bodySome _ (by kernel_rfl), by kernel_rfl, by kernel_rfl, by kernel_rfl, by kernel_rfl⟩
theorem run80 (F : Nat) (s : List UInt8) (n : Int) : runP (ctx F []) noL 16 [.cell 4 33, .tmp 5, .tmp 6] (body Tryd.f80) [.d (.str s), .d (.int .i64 n)] =
    Tr.val
      (.cnd (decide (n ≥ (↑s.length : Int)))
        (.ok (PV.tup
        [PV.d (DV.agg [DV.int IntKind.i64 (0), DV.int IntKind.i64 (0), DV.str []]),
          PV.d (DV.int IntKind.i64 (↑s.length : Int)), PV.d (DV.int IntKind.i64 (3))]))
        (.ok (PV.tup
        [PV.d (DV.agg [DV.int IntKind.i64 (0), DV.int IntKind.i64 (0), DV.str []]),
          PV.d (DV.int IntKind.i64 n), PV.d (DV.int IntKind.i64 (4))]))) := by kernel_rfl
end Go.PS
end

section
namespace Go.PS
open Go.Proofs

theorem chr_def (s : List UInt8) (m : Int) : ((s.getD m.toNat 0).toNat : Int) = chr s m := rfl
theorem low_range (b : Int) : -1 ≤ low b ∧ low b ≤ 15 := by
  unfold low
  repeat' split
  all_goals omega

theorem esc_iff (s : List UInt8) (n : Int) (h0 : 0 ≤ n) : hasB [34, 92, 110, 120] s n = (decide (n < s.length) && (decide (chr s n = 34) || decide (chr s n = 92) || decide (chr s n = 110) || decide (chr s n = 120))) := by
  rw [Bool.eq_iff_iff, hasB_iff, idx_chr, idx_esc]
  have hc : chr s n = ((s.getD n.toNat 0).toNat : Int) := rfl
  rw [hc]
  simp only [Bool.and_eq_true, Bool.or_eq_true, decide_eq_true_eq]
  generalize (s.getD n.toNat 0).toNat = b
  repeat' split
  all_goals omega

theorem ok76 (W0 : World) : EKOk Tryd.prog W0 76 (.eff (frameT S76)) := by
  refine eff_of (tyOk 0 [(77, .eff (frameT S77)), (98, .eff (frameT S98))]) (look_ok (all_cons (ok77 W0) (all_cons (ok98 W0) all_nil))) mixed fn76 (lpsOk_no _ _) fun args H r h => ?_
  unfold S76 at h
  split at h
  · rename_i s n
    refine (run76 0 s n).trans ?_
    rw [← h]
    simp only [Tr.val_chk, chk_some, Bool.and_eq_true, decide_eq_true_eq] at h
    obtain ⟨⟨h0, h1⟩, _⟩ := h
    unfold lim at h1
    have hnn := chr_nonneg s n
    simp only [Tr.val_ok, Tr.val_cnd, Tr.val_chk]
    rw [esc_iff s n h0, chk_t (lim_ok h0 (m := n) (by omega)), chk_t (lim_ok h0 (m := n + 3) h1), chk_t (lim_ok (n := n + 1) (m := n + 1 + 2) (by omega) (by omega))]
    by_cases hn : n < s.length
    · by_cases c1 : chr s n = 34
      · simp [escV, escTo, hn, c1]
      · by_cases c2 : chr s n = 92
        · simp [escV, escTo, hn, c2]
        · by_cases c3 : chr s n = 110
          · simp [escV, escTo, hn, c3]
          · by_cases c4 : chr s n = 120
            · simp [escV, escTo, hn, c4]
            · simp [escV, escTo, hn, c1, c2, c3, c4]
    · simp [escV, escTo, hn]
  · simp [Tr.val_no] at h

theorem ok47 (W0 : World) : EKOk Tryd.prog W0 47 (.pure S47) := by
  refine pure_of (tyOk 0 []) (look_ok all_nil) mixed fn47 (lpsOk_no _ _) fun args r h => ?_
  unfold S47 at h
  split at h
  · rename_i b
    refine (run47 0 b).trans ?_
    rw [← h]
    by_cases h1 : 48 ≤ b
    · have : b ≥ 48 := h1
      simp [Tr.val_ok, Tr.val_cnd, isDigit, h1]
    · have : ¬ b ≥ 48 := h1
      simp [Tr.val_ok, Tr.val_cnd, isDigit, h1]
  · simp [Tr.val_no] at h

theorem wrap8 {x : Int} (h1 : 0 ≤ x) (h2 : x ≤ 255) : IntKind.u8.wrap x = x := by
  obtain ⟨n, rfl⟩ := Int.eq_ofNat_of_zero_le h1
  unfold IntKind.wrap
  simp [IntKind.signed, IntKind.bits]
  omega

theorem ok101 (W0 : World) : EKOk Tryd.prog W0 101 (.pure S101) := by
  refine pure_of (tyOk 0 [(47, .pure S47)]) (look_ok (all_cons (ok47 W0) all_nil)) mixed fn101 (lpsOk_no _ _) fun args r h => ?_
  unfold S101 at h
  split at h
  · rename_i b
    refine (run101 0 b).trans ?_
    rw [← h]
    simp only [Tr.val_chk, chk_some, Bool.and_eq_true, decide_eq_true_eq] at h
    obtain ⟨⟨h0, h1⟩, _⟩ := h
    simp only [Tr.val_ok, Tr.val_cnd, Tr.val_chk]
    rw [chk_t (by simp [h0, h1])]
    by_cases d : 48 ≤ b ∧ b ≤ 57
    · rw [cnd_t (by simp [isDigit, d]), wrap8 (by omega) (by omega), wrap64 (by omega) (by omega)]
      simp [low, d]
    · rw [cnd_f (by simp [isDigit]; omega)]
      by_cases l : 97 ≤ b ∧ b ≤ 102
      · rw [cnd_t (by simp only [ge_iff_le, decide_eq_true_eq]; omega), cnd_t (by simp only [decide_eq_true_eq]; omega), wrap8 (by omega) (by omega), wrap64 (x := b - 97) (by omega) (by omega), wrap64 (by omega) (by omega)]
        simp only [low, if_neg d, if_pos l]
        rw [show b - 97 + 10 = b - 87 by omega]
      · simp only [low, if_neg d, if_neg l]
        by_cases h97 : b ≥ 97
        · rw [cnd_t (by simpa using h97), cnd_f (by simp only [decide_eq_false_iff_not]; omega)]; rfl
        · rw [cnd_f (by simpa using h97)]; rfl
  · simp [Tr.val_no] at h

theorem ok80 (W0 : World) : EKOk Tryd.prog W0 80 (.pure S80) := by
  refine pure_of (tyOk 0 []) (look_ok all_nil) mixed fn80 (lpsOk_no _ _) fun args r h => ?_
  unfold S80 at h
  split at h
  · rename_i s n
    refine (run80 0 s n).trans ?_
    rw [← h]
    by_cases hn : n < s.length
    · have : ¬ (n ≥ (s.length : Int)) := by omega
      simp [Tr.val_ok, Tr.val_cnd, failN, failE, hn, this]
    · have : n ≥ (s.length : Int) := by omega
      simp [Tr.val_ok, Tr.val_cnd, failN, failE, hn, this]
  · simp [Tr.val_no] at h

set_option maxHeartbeats 2000000 in
theorem ok79 (W0 : World) : EKOk Tryd.prog W0 79 (.pure S79) := by
  refine pure_of (tyOk 0 [(101, .pure S101)]) (look_ok (all_cons (ok101 W0) all_nil)) mixed fn79 (lpsOk_no _ _) fun args r h => ?_
  unfold S79 at h
  split at h
  · rename_i s n
    refine (run79 0 s n).trans ?_
    rw [← h]
    simp only [Tr.val_chk, chk_some, Bool.and_eq_true, decide_eq_true_eq] at h
    obtain ⟨⟨h0, h1⟩, _⟩ := h
    unfold lim at h1
    have hnn := chr_nonneg s n
    have hn1 := chr_nonneg s (n + 1)
    have hn2 := chr_nonneg s (n + 2)
    have hl0 := chr_lt s n
    have hl1 := chr_lt s (n + 1)
    have hl2 := chr_lt s (n + 2)
    have r1 := low_range (chr s (n + 1))
    have r2 := low_range (chr s (n + 2))
    have w1 : IntKind.i64.wrap (n + 1) = n + 1 := wrap64 (by omega) (by omega)
    have w2 : IntKind.i64.wrap (n + 2) = n + 2 := wrap64 (by omega) (by omega)
    have w3 : IntKind.i64.wrap (n + 3) = n + 3 := wrap64 (by omega) (by omega)
    have w4 : IntKind.i64.wrap (chr s n) = chr s n := wrap64 (by omega) (by omega)
    have w5 : IntKind.i64.wrap (16 * low (chr s (n + 1))) = 16 * low (chr s (n + 1)) := wrap64 (by omega) (by omega)
    have w6 : IntKind.i64.wrap (16 * low (chr s (n + 1)) + low (chr s (n + 2))) = 16 * low (chr s (n + 1)) + low (chr s (n + 2)) := wrap64 (by omega) (by omega)
    have e2 : n + 1 + 1 = n + 2 := by omega
    have e3 : n + 1 + 2 = n + 3 := by omega
    simp only [Tr.val_ok, Tr.val_cnd, Tr.val_chk, chr_def, w1, w2, w3, w4, w5, w6]
    rw [chk_t (lim_ok h0 (m := n + 3) h1)]
    simp only [cnd_dec, chk_dec]
    by_cases hn : n < s.length
    · have g0 : ¬ (n ≥ (s.length : Int)) := by omega
      have g1 : n.toNat < s.length := by omega
      by_cases c1 : chr s n = 34
      · simp [escV, escTo, hn, g0, g1, h0, c1]
      · by_cases c2 : chr s n = 92
        · simp [escV, escTo, hn, g0, g1, h0, c2]
        · by_cases c3 : chr s n = 110
          · simp [escV, escTo, hn, g0, g1, h0, c3]
          · by_cases c4 : chr s n = 120
            · by_cases m1 : n + 1 < s.length
              · have g2 : ¬ (n + 1 ≥ (s.length : Int)) := by omega
                have g3 : (n + 1).toNat < s.length := by omega
                have g4 : 0 ≤ n + 1 := by omega
                by_cases hh : high (chr s (n + 1)) = true
                · by_cases m2 : n + 2 < s.length
                  · have g5 : ¬ (n + 2 ≥ (s.length : Int)) := by omega
                    have g6 : (n + 2).toNat < s.length := by omega
                    have g7 : 0 ≤ n + 2 := by omega
                    by_cases hl : 0 ≤ low (chr s (n + 2))
                    · have g8 : ¬ (low (chr s (n + 2)) < 0) := by omega
                      have hx1 : hex1 s (n + 1) = true := by simp [hex1, m1, hh]
                      have hx2 : hex2 s (n + 1) = true := by simp [hex2, e2, m2, hl]
                      have hxb : hexB s (n + 1) = 16 * low (chr s (n + 1)) + low (chr s (n + 2)) := by simp [hexB, e2]
                      have hor : chr s (n + 1) = 48 ∨ chr s (n + 1) = 49 ∨ chr s (n + 1) = 55 := by
                        unfold high at hh
                        simp only [Bool.or_eq_true, decide_eq_true_eq] at hh
                        omega
                      generalize hq : 16 * low (chr s (n + 1)) + low (chr s (n + 2)) = q at *
                      by_cases b10 : q = 10
                      · have hbad : escBad 10 = true := rfl
                        rcases hor with c | c | c <;> simp [escV, escTo, hn, g0, g1, h0, c4, g2, g3, g4, g5, g6, g7, g8, hexV, hexTo, hx1, hx2, hxb, hbad, e2, c, b10, hn2, hl2]
                      · by_cases b32 : 32 ≤ q
                        · by_cases b127 : q = 127
                          · have hbad : escBad 127 = false := rfl
                            rcases hor with c | c | c <;> simp [escV, escTo, hn, g0, g1, h0, c4, g2, g3, g4, g5, g6, g7, g8, hexV, hexTo, hx1, hx2, hxb, hbad, e2, e3, c, b127, hn2, hl2]
                          · have hbad : escBad q = true := by simp [escBad, b10, b32, b127]
                            have b33 : q ≥ 32 := b32
                            rcases hor with c | c | c <;> simp [escV, escTo, hn, g0, g1, h0, c4, g2, g3, g4, g5, g6, g7, g8, hexV, hexTo, hx1, hx2, hxb, hbad, e2, c, b10, b33, b127, hn2, hl2]
                        · have hbad : escBad q = false := by simp [escBad, b10, b32]
                          have b33 : ¬ q ≥ 32 := b32
                          rcases hor with c | c | c <;> simp [escV, escTo, hn, g0, g1, h0, c4, g2, g3, g4, g5, g6, g7, g8, hexV, hexTo, hx1, hx2, hxb, hbad, e2, e3, c, b10, b33, hn2, hl2]
                    · have g8 : low (chr s (n + 2)) < 0 := by omega
                      have hx1 : hex1 s (n + 1) = true := by simp [hex1, m1, hh]
                      have hx2 : hex2 s (n + 1) = false := by simp [hex2, e2, hl]
                      have hor : chr s (n + 1) = 48 ∨ chr s (n + 1) = 49 ∨ chr s (n + 1) = 55 := by
                        unfold high at hh
                        simp only [Bool.or_eq_true, decide_eq_true_eq] at hh
                        omega
                      rcases hor with c | c | c <;> simp [escV, escTo, hn, g0, g1, h0, c4, g2, g3, g4, g5, g6, g7, g8, hexV, hexTo, hx1, hx2, e2, c, hn2, hl2]
                  · have g5 : n + 2 ≥ (s.length : Int) := by omega
                    have hx1 : hex1 s (n + 1) = true := by simp [hex1, m1, hh]
                    have hx2 : hex2 s (n + 1) = false := by simp [hex2, e2, m2]
                    have hor : chr s (n + 1) = 48 ∨ chr s (n + 1) = 49 ∨ chr s (n + 1) = 55 := by
                      unfold high at hh
                      simp only [Bool.or_eq_true, decide_eq_true_eq] at hh
                      omega
                    rcases hor with c | c | c <;> simp [escV, escTo, hn, g0, g1, h0, c4, g2, g3, g4, g5, hexV, hexTo, hx1, hx2, e2, c]
                · have hx1 : hex1 s (n + 1) = false := by simp [hex1, hh]
                  have k1 : ¬ chr s (n + 1) = 48 := by intro e; simp [high, e] at hh
                  have k2 : ¬ chr s (n + 1) = 49 := by intro e; simp [high, e] at hh
                  have k3 : ¬ chr s (n + 1) = 55 := by intro e; simp [high, e] at hh
                  simp [escV, escTo, hn, g0, g1, h0, c4, g2, g3, g4, hexV, hexTo, hx1, k1, k2, k3]
              · have g2 : n + 1 ≥ (s.length : Int) := by omega
                have hx1 : hex1 s (n + 1) = false := by simp [hex1, m1]
                simp [escV, escTo, hn, g0, g1, h0, c4, g2, hexV, hexTo, hx1]
            · simp [escV, escTo, hn, g0, g1, h0, c1, c2, c3, c4]
    · have g0 : n ≥ (s.length : Int) := by omega
      simp [escV, escTo, hn, g0]
  · simp [Tr.val_no] at h
end Go.PS
end

section
namespace Go.PS
open Go.Proofs
/-! the width of the code point at a place (fastiref01.Width) -/
/-- its bytes from the second on; are all there, and what they come to -/
def wGo (s : List UInt8) (a n : Int) : Nat → Int → Int → Bool × Int
  | 0, _, c => (true, c)
  | m + 1, i, c => if i < n then (if a + i < s.length ∧ chr s (a + i) / 64 = 2 then wGo s a n m (i + 1) (64 * c + chr s (a + i) % 64) else (false, c)) else (true, c)
def wAll (s : List UInt8) (a n i c : Int) : Bool × Int := wGo s a n ((n - i).toNat + 1) i c
def T61 (st : St) : Tr (Ex × St) :=
  bif shape 100 [0, 1, 4, 6, 7, 8, 9] st.slots then
    match gt .undef st.slots 0, gt .undef st.slots 1, gt .undef st.slots 4, gt .undef st.slots 6, gt .undef st.slots 7, gt .undef st.slots 8, gt .undef st.slots 9, st.heap with
    | .d (.str s), .d (.int .i64 a), .d (.int .i64 r), .d (.int .i64 n), .d (.int .i64 c), .d (.int .i64 l), .d (.int .i64 i), [] =>
      .chk (decide (0 ≤ a) && decide (a < lim) && decide (1 ≤ i) && decide (i ≤ n) && decide (n ≤ 4) && decide (0 ≤ c) && decide (c < 64 ^ i.toNat)) (.cnd (wAll s a n i c).1
        (.ok (.exit 1, ⟨slots 100 [(0, .d (.str s)), (1, .d (.int .i64 a)), (4, .d (.int .i64 r)), (6, .d (.int .i64 n)), (7, .d (.int .i64 (wAll s a n i c).2)), (8, .d (.int .i64 l))], []⟩))
        (.ok (.ret, ⟨slots 100 [(0, .d (.str s)), (1, .d (.int .i64 a)), (4, .d (.int .i64 0)), (6, .d (.int .i64 n)), (7, .d (.int .i64 (wAll s a n i c).2)), (8, .d (.int .i64 l))], []⟩)))
    | _, _, _, _, _, _, _, _ => .no
  else .no
def L61 : Lps := fun i => bif Nat.beq i 15 then some (allBut 100 [0, 1, 4, 6, 7, 8, 9], allBut 100 [0, 1, 4, 6, 7, 8], T61) else none
end Go.PS
end

section
namespace Go.PS
open Go.Proofs
set_option maxRecDepth 100000
theorem round61_0 (F : Nat) {R : Type} (s : List UInt8) (a r n c l i : Int) (K : Ex → St → Option R) (G : St → Option R) : roundK (pcodeK (ctx F []) L61 (lp Tryd.f61 0)) 0 (allBut 100 [0, 1, 4, 6, 7, 8, 9] ++ temps (lp Tryd.f61 0)) (allBut 100 [0, 1, 4, 6, 7, 8]) ⟨slots 100 [(0, .d (.str s)), (1, .d (.int .i64 a)), (4, .d (.int .i64 r)), (6, .d (.int .i64 n)), (7, .d (.int .i64 c)), (8, .d (.int .i64 l)), (9, .d (.int .i64 i))], []⟩ K G =
    Tr.run
      (.cnd (decide (i < n))
        (.cnd (decide (IntKind.i64.wrap (a + i) ≥ (↑s.length : Int)))
          (.ok (.inl (Ex.ret, ⟨slots 100 [(0, PV.d (DV.str s)), (1, PV.d (DV.int IntKind.i64 a)), (4, PV.d (DV.int IntKind.i64 (0))), (6, PV.d (DV.int IntKind.i64 n)), (7, PV.d (DV.int IntKind.i64 c)), (8, PV.d (DV.int IntKind.i64 l))], []⟩)))
          (.chk (decide (0 ≤ IntKind.i64.wrap (a + i)))
          (.chk (decide ((IntKind.i64.wrap (a + i)).toNat < s.length))
          (.cnd (!decide (IntKind.i64.wrap ((IntKind.i64.wrap (↑(s.getD (IntKind.i64.wrap (a + i)).toNat 0).toNat : Int)).tdiv 64) = 2))
            (.ok (.inl (Ex.ret, ⟨slots 100 [(0, PV.d (DV.str s)), (1, PV.d (DV.int IntKind.i64 a)), (4, PV.d (DV.int IntKind.i64 (0))), (6, PV.d (DV.int IntKind.i64 n)), (7, PV.d (DV.int IntKind.i64 c)), (8, PV.d (DV.int IntKind.i64 l))], []⟩)))
            (.chk (decide (0 ≤ IntKind.i64.wrap (a + i)))
            (.chk (decide ((IntKind.i64.wrap (a + i)).toNat < s.length))
            (.ok (.inr ⟨slots 100 [(0, PV.d (DV.str s)), (1, PV.d (DV.int IntKind.i64 a)), (4, PV.d (DV.int IntKind.i64 r)), (6, PV.d (DV.int IntKind.i64 n)), (7, PV.d
        (DV.int IntKind.i64
          (IntKind.i64.wrap
            (IntKind.i64.wrap (64 * c) +
              (IntKind.i64.wrap (↑(s.getD (IntKind.i64.wrap (a + i)).toNat 0).toNat : Int)).tmod 64)))), (8, PV.d (DV.int IntKind.i64 l)), (9, PV.d (DV.int IntKind.i64 (IntKind.i64.wrap (i + 1))))], []⟩))))))))
        (.ok (.inl (Ex.exit 1, ⟨slots 100 [(0, PV.d (DV.str s)), (1, PV.d (DV.int IntKind.i64 a)), (4, PV.d (DV.int IntKind.i64 r)), (6, PV.d (DV.int IntKind.i64 n)), (7, PV.d (DV.int IntKind.i64 c)), (8, PV.d (DV.int IntKind.i64 l))], []⟩)))) (rnd K G) := by kernel_rfl
/-! fasti fastiref01.Width -/
theorem fn61 : FnOk Tryd.prog 61 100 [.tmp 4] (body Tryd.f61) := ⟨Tryd.f61, Tryd.func61, bodySome _ (by kernel_rfl), by kernel_rfl, by kernel_rfl, by kernel_rfl, by kernel_rfl⟩
theorem run61 (F : Nat) (s : List UInt8) (a : Int) : runP (ctx F []) L61 100 [.tmp 4] (body Tryd.f61) [.d (.str s), .d (.int .i64 a)] =
    Tr.val
      (.cnd (decide (a < 0))
        (.ok (PV.d (DV.int IntKind.i64 (0))))
        (.cnd (decide (a ≥ (↑s.length : Int)))
          (.ok (PV.d (DV.int IntKind.i64 (0))))
          (.chk (decide (0 ≤ a))
          (.chk (decide (a.toNat < s.length))
          (.cnd (decide (IntKind.i64.wrap (↑(s.getD a.toNat 0).toNat : Int) < 128))
            (.ok (PV.d (DV.int IntKind.i64 (1))))
            (.cnd (decide (IntKind.i64.wrap (↑(s.getD a.toNat 0).toNat : Int) ≥ 192))
              (.cnd (decide (IntKind.i64.wrap (↑(s.getD a.toNat 0).toNat : Int) < 224))
                (.chk (decide (0 ≤ a) && decide (a < lim) && decide (1 ≤ 1) && decide (1 ≤ 2) && decide (2 ≤ 4) &&
          decide (0 ≤ IntKind.i64.wrap (IntKind.i64.wrap (↑(s.getD a.toNat 0).toNat : Int) - 192)) &&
        decide (IntKind.i64.wrap (IntKind.i64.wrap (↑(s.getD a.toNat 0).toNat : Int) - 192) < 64 ^ Int.toNat 1))
                (.cnd ((wAll s a 2 1 (IntKind.i64.wrap (IntKind.i64.wrap (↑(s.getD a.toNat 0).toNat : Int) - 192))).fst)
                  (.cnd (decide ((wAll s a 2 1 (IntKind.i64.wrap (IntKind.i64.wrap (↑(s.getD a.toNat 0).toNat : Int) - 192))).snd < 128))
                    (.ok (PV.d (DV.int IntKind.i64 (0))))
                    (.cnd (decide ((wAll s a 2 1 (IntKind.i64.wrap (IntKind.i64.wrap (↑(s.getD a.toNat 0).toNat : Int) - 192))).snd ≥ 55296))
                      (.cnd (decide ((wAll s a 2 1 (IntKind.i64.wrap (IntKind.i64.wrap (↑(s.getD a.toNat 0).toNat : Int) - 192))).snd < 57344))
                        (.ok (PV.d (DV.int IntKind.i64 (0))))
                        (.cnd (decide ((wAll s a 2 1 (IntKind.i64.wrap (IntKind.i64.wrap (↑(s.getD a.toNat 0).toNat : Int) - 192))).snd > 1114111))
                          (.ok (PV.d (DV.int IntKind.i64 (0))))
                          (.ok (PV.d (DV.int IntKind.i64 (2))))))
                      (.cnd (decide ((wAll s a 2 1 (IntKind.i64.wrap (IntKind.i64.wrap (↑(s.getD a.toNat 0).toNat : Int) - 192))).snd > 1114111))
                        (.ok (PV.d (DV.int IntKind.i64 (0))))
                        (.ok (PV.d (DV.int IntKind.i64 (2)))))))
                  (.ok (PV.d (DV.int IntKind.i64 (0))))))
                (.cnd (decide (IntKind.i64.wrap (↑(s.getD a.toNat 0).toNat : Int) ≥ 224))
                  (.cnd (decide (IntKind.i64.wrap (↑(s.getD a.toNat 0).toNat : Int) < 240))
                    (.chk (decide (0 ≤ a) && decide (a < lim) && decide (1 ≤ 1) && decide (1 ≤ 3) && decide (3 ≤ 4) &&
          decide (0 ≤ IntKind.i64.wrap (IntKind.i64.wrap (↑(s.getD a.toNat 0).toNat : Int) - 224)) &&
        decide (IntKind.i64.wrap (IntKind.i64.wrap (↑(s.getD a.toNat 0).toNat : Int) - 224) < 64 ^ Int.toNat 1))
                    (.cnd ((wAll s a 3 1 (IntKind.i64.wrap (IntKind.i64.wrap (↑(s.getD a.toNat 0).toNat : Int) - 224))).fst)
                      (.cnd (decide ((wAll s a 3 1 (IntKind.i64.wrap (IntKind.i64.wrap (↑(s.getD a.toNat 0).toNat : Int) - 224))).snd < 2048))
                        (.ok (PV.d (DV.int IntKind.i64 (0))))
                        (.cnd (decide ((wAll s a 3 1 (IntKind.i64.wrap (IntKind.i64.wrap (↑(s.getD a.toNat 0).toNat : Int) - 224))).snd ≥ 55296))
                          (.cnd (decide ((wAll s a 3 1 (IntKind.i64.wrap (IntKind.i64.wrap (↑(s.getD a.toNat 0).toNat : Int) - 224))).snd < 57344))
                            (.ok (PV.d (DV.int IntKind.i64 (0))))
                            (.cnd (decide ((wAll s a 3 1 (IntKind.i64.wrap (IntKind.i64.wrap (↑(s.getD a.toNat 0).toNat : Int) - 224))).snd > 1114111))
                              (.ok (PV.d (DV.int IntKind.i64 (0))))
                              (.ok (PV.d (DV.int IntKind.i64 (3))))))
                          (.cnd (decide ((wAll s a 3 1 (IntKind.i64.wrap (IntKind.i64.wrap (↑(s.getD a.toNat 0).toNat : Int) - 224))).snd > 1114111))
                            (.ok (PV.d (DV.int IntKind.i64 (0))))
                            (.ok (PV.d (DV.int IntKind.i64 (3)))))))
                      (.ok (PV.d (DV.int IntKind.i64 (0))))))
                    (.cnd (decide (IntKind.i64.wrap (↑(s.getD a.toNat 0).toNat : Int) ≥ 240))
                      (.cnd (decide (IntKind.i64.wrap (↑(s.getD a.toNat 0).toNat : Int) < 248))
                        (.chk (decide (0 ≤ a) && decide (a < lim) && decide (1 ≤ 1) && decide (1 ≤ 4) && decide (4 ≤ 4) &&
          decide (0 ≤ IntKind.i64.wrap (IntKind.i64.wrap (↑(s.getD a.toNat 0).toNat : Int) - 240)) &&
        decide (IntKind.i64.wrap (IntKind.i64.wrap (↑(s.getD a.toNat 0).toNat : Int) - 240) < 64 ^ Int.toNat 1))
                        (.cnd ((wAll s a 4 1 (IntKind.i64.wrap (IntKind.i64.wrap (↑(s.getD a.toNat 0).toNat : Int) - 240))).fst)
                          (.cnd (decide ((wAll s a 4 1 (IntKind.i64.wrap (IntKind.i64.wrap (↑(s.getD a.toNat 0).toNat : Int) - 240))).snd < 65536))
                            (.ok (PV.d (DV.int IntKind.i64 (0))))
                            (.cnd (decide ((wAll s a 4 1 (IntKind.i64.wrap (IntKind.i64.wrap (↑(s.getD a.toNat 0).toNat : Int) - 240))).snd ≥ 55296))
                              (.cnd (decide ((wAll s a 4 1 (IntKind.i64.wrap (IntKind.i64.wrap (↑(s.getD a.toNat 0).toNat : Int) - 240))).snd < 57344))
                                (.ok (PV.d (DV.int IntKind.i64 (0))))
                                (.cnd (decide ((wAll s a 4 1 (IntKind.i64.wrap (IntKind.i64.wrap (↑(s.getD a.toNat 0).toNat : Int) - 240))).snd > 1114111))
                                  (.ok (PV.d (DV.int IntKind.i64 (0))))
                                  (.ok (PV.d (DV.int IntKind.i64 (4))))))
                              (.cnd (decide ((wAll s a 4 1 (IntKind.i64.wrap (IntKind.i64.wrap (↑(s.getD a.toNat 0).toNat : Int) - 240))).snd > 1114111))
                                (.ok (PV.d (DV.int IntKind.i64 (0))))
                                (.ok (PV.d (DV.int IntKind.i64 (4)))))))
                          (.ok (PV.d (DV.int IntKind.i64 (0))))))
                        (.ok (PV.d (DV.int IntKind.i64 (0)))))
                      (.ok (PV.d (DV.int IntKind.i64 (0))))))
                  (.cnd (decide (IntKind.i64.wrap (↑(s.getD a.toNat 0).toNat : Int) ≥ 240))
                    (.cnd (decide (IntKind.i64.wrap (↑(s.getD a.toNat 0).toNat : Int) < 248))
                      (.chk (decide (0 ≤ a) && decide (a < lim) && decide (1 ≤ 1) && decide (1 ≤ 4) && decide (4 ≤ 4) &&
          decide (0 ≤ IntKind.i64.wrap (IntKind.i64.wrap (↑(s.getD a.toNat 0).toNat : Int) - 240)) &&
        decide (IntKind.i64.wrap (IntKind.i64.wrap (↑(s.getD a.toNat 0).toNat : Int) - 240) < 64 ^ Int.toNat 1))
                      (.cnd ((wAll s a 4 1 (IntKind.i64.wrap (IntKind.i64.wrap (↑(s.getD a.toNat 0).toNat : Int) - 240))).fst)
                        (.cnd (decide ((wAll s a 4 1 (IntKind.i64.wrap (IntKind.i64.wrap (↑(s.getD a.toNat 0).toNat : Int) - 240))).snd < 65536))
                          (.ok (PV.d (DV.int IntKind.i64 (0))))
                          (.cnd (decide ((wAll s a 4 1 (IntKind.i64.wrap (IntKind.i64.wrap (↑(s.getD a.toNat 0).toNat : Int) - 240))).snd ≥ 55296))
                            (.cnd (decide ((wAll s a 4 1 (IntKind.i64.wrap (IntKind.i64.wrap (↑(s.getD a.toNat 0).toNat : Int) - 240))).snd < 57344))
                              (.ok (PV.d (DV.int IntKind.i64 (0))))
                              (.cnd (decide ((wAll s a 4 1 (IntKind.i64.wrap (IntKind.i64.wrap (↑(s.getD a.toNat 0).toNat : Int) - 240))).snd > 1114111))
                                (.ok (PV.d (DV.int IntKind.i64 (0))))
                                (.ok (PV.d (DV.int IntKind.i64 (4))))))
                            (.cnd (decide ((wAll s a 4 1 (IntKind.i64.wrap (IntKind.i64.wrap (↑(s.getD a.toNat 0).toNat : Int) - 240))).snd > 1114111))
                              (.ok (PV.d (DV.int IntKind.i64 (0))))
                              (.ok (PV.d (DV.int IntKind.i64 (4)))))))
                        (.ok (PV.d (DV.int IntKind.i64 (0))))))
                      (.ok (PV.d (DV.int IntKind.i64 (0)))))
                    (.ok (PV.d (DV.int IntKind.i64 (0)))))))
              (.cnd (decide (IntKind.i64.wrap (↑(s.getD a.toNat 0).toNat : Int) ≥ 224))
                (.cnd (decide (IntKind.i64.wrap (↑(s.getD a.toNat 0).toNat : Int) < 240))
                  (.chk (decide (0 ≤ a) && decide (a < lim) && decide (1 ≤ 1) && decide (1 ≤ 3) && decide (3 ≤ 4) &&
          decide (0 ≤ IntKind.i64.wrap (IntKind.i64.wrap (↑(s.getD a.toNat 0).toNat : Int) - 224)) &&
        decide (IntKind.i64.wrap (IntKind.i64.wrap (↑(s.getD a.toNat 0).toNat : Int) - 224) < 64 ^ Int.toNat 1))
                  (.cnd ((wAll s a 3 1 (IntKind.i64.wrap (IntKind.i64.wrap (↑(s.getD a.toNat 0).toNat : Int) - 224))).fst)
                    (.cnd (decide ((wAll s a 3 1 (IntKind.i64.wrap (IntKind.i64.wrap (↑(s.getD a.toNat 0).toNat : Int) - 224))).snd < 2048))
                      (.ok (PV.d (DV.int IntKind.i64 (0))))
                      (.cnd (decide ((wAll s a 3 1 (IntKind.i64.wrap (IntKind.i64.wrap (↑(s.getD a.toNat 0).toNat : Int) - 224))).snd ≥ 55296))
                        (.cnd (decide ((wAll s a 3 1 (IntKind.i64.wrap (IntKind.i64.wrap (↑(s.getD a.toNat 0).toNat : Int) - 224))).snd < 57344))
                          (.ok (PV.d (DV.int IntKind.i64 (0))))
                          (.cnd (decide ((wAll s a 3 1 (IntKind.i64.wrap (IntKind.i64.wrap (↑(s.getD a.toNat 0).toNat : Int) - 224))).snd > 1114111))
                            (.ok (PV.d (DV.int IntKind.i64 (0))))
                            (.ok (PV.d (DV.int IntKind.i64 (3))))))
                        (.cnd (decide ((wAll s a 3 1 (IntKind.i64.wrap (IntKind.i64.wrap (↑(s.getD a.toNat 0).toNat : Int) - 224))).snd > 1114111))
                          (.ok (PV.d (DV.int IntKind.i64 (0))))
                          (.ok (PV.d (DV.int IntKind.i64 (3)))))))
                    (.ok (PV.d (DV.int IntKind.i64 (0))))))
                  (.cnd (decide (IntKind.i64.wrap (↑(s.getD a.toNat 0).toNat : Int) ≥ 240))
                    (.cnd (decide (IntKind.i64.wrap (↑(s.getD a.toNat 0).toNat : Int) < 248))
                      (.chk (decide (0 ≤ a) && decide (a < lim) && decide (1 ≤ 1) && decide (1 ≤ 4) && decide (4 ≤ 4) &&
          decide (0 ≤ IntKind.i64.wrap (IntKind.i64.wrap (↑(s.getD a.toNat 0).toNat : Int) - 240)) &&
        decide (IntKind.i64.wrap (IntKind.i64.wrap (↑(s.getD a.toNat 0).toNat : Int) - 240) < 64 ^ Int.toNat 1))
                      (.cnd ((wAll s a 4 1 (IntKind.i64.wrap (IntKind.i64.wrap (↑(s.getD a.toNat 0).toNat : Int) - 240))).fst)
                        (.cnd (decide ((wAll s a 4 1 (IntKind.i64.wrap (IntKind.i64.wrap (↑(s.getD a.toNat 0).toNat : Int) - 240))).snd < 65536))
                          (.ok (PV.d (DV.int IntKind.i64 (0))))
                          (.cnd (decide ((wAll s a 4 1 (IntKind.i64.wrap (IntKind.i64.wrap (↑(s.getD a.toNat 0).toNat : Int) - 240))).snd ≥ 55296))
                            (.cnd (decide ((wAll s a 4 1 (IntKind.i64.wrap (IntKind.i64.wrap (↑(s.getD a.toNat 0).toNat : Int) - 240))).snd < 57344))
                              (.ok (PV.d (DV.int IntKind.i64 (0))))
                              (.cnd (decide ((wAll s a 4 1 (IntKind.i64.wrap (IntKind.i64.wrap (↑(s.getD a.toNat 0).toNat : Int) - 240))).snd > 1114111))
                                (.ok (PV.d (DV.int IntKind.i64 (0))))
                                (.ok (PV.d (DV.int IntKind.i64 (4))))))
                            (.cnd (decide ((wAll s a 4 1 (IntKind.i64.wrap (IntKind.i64.wrap (↑(s.getD a.toNat 0).toNat : Int) - 240))).snd > 1114111))
                              (.ok (PV.d (DV.int IntKind.i64 (0))))
                              (.ok (PV.d (DV.int IntKind.i64 (4)))))))
                        (.ok (PV.d (DV.int IntKind.i64 (0))))))
                      (.ok (PV.d (DV.int IntKind.i64 (0)))))
                    (.ok (PV.d (DV.int IntKind.i64 (0))))))
                (.cnd (decide (IntKind.i64.wrap (↑(s.getD a.toNat 0).toNat : Int) ≥ 240))
                  (.cnd (decide (IntKind.i64.wrap (↑(s.getD a.toNat 0).toNat : Int) < 248))
                    (.chk (decide (0 ≤ a) && decide (a < lim) && decide (1 ≤ 1) && decide (1 ≤ 4) && decide (4 ≤ 4) &&
          decide (0 ≤ IntKind.i64.wrap (IntKind.i64.wrap (↑(s.getD a.toNat 0).toNat : Int) - 240)) &&
        decide (IntKind.i64.wrap (IntKind.i64.wrap (↑(s.getD a.toNat 0).toNat : Int) - 240) < 64 ^ Int.toNat 1))
                    (.cnd ((wAll s a 4 1 (IntKind.i64.wrap (IntKind.i64.wrap (↑(s.getD a.toNat 0).toNat : Int) - 240))).fst)
                      (.cnd (decide ((wAll s a 4 1 (IntKind.i64.wrap (IntKind.i64.wrap (↑(s.getD a.toNat 0).toNat : Int) - 240))).snd < 65536))
                        (.ok (PV.d (DV.int IntKind.i64 (0))))
                        (.cnd (decide ((wAll s a 4 1 (IntKind.i64.wrap (IntKind.i64.wrap (↑(s.getD a.toNat 0).toNat : Int) - 240))).snd ≥ 55296))
                          (.cnd (decide ((wAll s a 4 1 (IntKind.i64.wrap (IntKind.i64.wrap (↑(s.getD a.toNat 0).toNat : Int) - 240))).snd < 57344))
                            (.ok (PV.d (DV.int IntKind.i64 (0))))
                            (.cnd (decide ((wAll s a 4 1 (IntKind.i64.wrap (IntKind.i64.wrap (↑(s.getD a.toNat 0).toNat : Int) - 240))).snd > 1114111))
                              (.ok (PV.d (DV.int IntKind.i64 (0))))
                              (.ok (PV.d (DV.int IntKind.i64 (4))))))
                          (.cnd (decide ((wAll s a 4 1 (IntKind.i64.wrap (IntKind.i64.wrap (↑(s.getD a.toNat 0).toNat : Int) - 240))).snd > 1114111))
                            (.ok (PV.d (DV.int IntKind.i64 (0))))
                            (.ok (PV.d (DV.int IntKind.i64 (4)))))))
                      (.ok (PV.d (DV.int IntKind.i64 (0))))))
                    (.ok (PV.d (DV.int IntKind.i64 (0)))))
                  (.ok (PV.d (DV.int IntKind.i64 (0)))))))))))) := by kernel_rfl
end Go.PS
end

section
namespace Go.PS
open Go.Proofs

theorem tdiv_nn {a b : Int} (h : 0 ≤ a) : a.tdiv b = a / b := Int.tdiv_eq_ediv_of_nonneg h
theorem tmod_nn {a b : Int} (h : 0 ≤ a) : a.tmod b = a % b := Int.tmod_eq_emod_of_nonneg h

theorem pow64 {i c : Int} (hi : 1 ≤ i) (h4 : i ≤ 4) (hc : c < 64 ^ i.toNat) : c < 16777216 := by
  have : i = 1 ∨ i = 2 ∨ i = 3 ∨ i = 4 := by omega
  rcases this with rfl | rfl | rfl | rfl <;> simp at hc <;> omega

theorem loop61 (F : Nat) {R : Type} (s : List UInt8) (a r n l : Int) (K : Ex → St → Option R) (h0 : 0 ≤ a) (h1 : a < 4611686018427387904) (hn : n ≤ 4) :
    ∀ (m : Nat) (i c : Int), 1 ≤ i → i ≤ n → 0 ≤ c → c < 64 ^ i.toNat → (n - i).toNat < m → loopK (pcodeK (ctx F []) L61 (lp Tryd.f61 0)) 0 (allBut 100 [0, 1, 4, 6, 7, 8, 9] ++ temps (lp Tryd.f61 0)) (allBut 100 [0, 1, 4, 6, 7, 8]) m
      ⟨slots 100 [(0, .d (.str s)), (1, .d (.int .i64 a)), (4, .d (.int .i64 r)), (6, .d (.int .i64 n)), (7, .d (.int .i64 c)), (8, .d (.int .i64 l)), (9, .d (.int .i64 i))], []⟩ K =
      PS.cnd (wAll s a n i c).1
        (K (.exit 1) ⟨slots 100 [(0, .d (.str s)), (1, .d (.int .i64 a)), (4, .d (.int .i64 r)), (6, .d (.int .i64 n)), (7, .d (.int .i64 (wAll s a n i c).2)), (8, .d (.int .i64 l))], []⟩)
        (K .ret ⟨slots 100 [(0, .d (.str s)), (1, .d (.int .i64 a)), (4, .d (.int .i64 0)), (6, .d (.int .i64 n)), (7, .d (.int .i64 (wAll s a n i c).2)), (8, .d (.int .i64 l))], []⟩) := by
  intro m
  induction m with
  | zero => intro i c _ _ _ _ hm; omega
  | succ m ih =>
    intro i c hi hin hc0 hc hm
    have hcb := pow64 hi (by omega) hc
    rw [loopK_succ, round61_0]
    have w1 : IntKind.i64.wrap (a + i) = a + i := wrap64 (by omega) (by omega)
    have hch := chr_nonneg s (a + i)
    have hcl := chr_lt s (a + i)
    have w2 : IntKind.i64.wrap (chr s (a + i)) = chr s (a + i) := wrap64 (by omega) (by omega)
    have w3 : IntKind.i64.wrap (chr s (a + i) / 64) = chr s (a + i) / 64 := wrap64 (by omega) (by omega)
    have w4 : IntKind.i64.wrap (64 * c) = 64 * c := wrap64 (by omega) (by omega)
    have w5 : IntKind.i64.wrap (64 * c + chr s (a + i) % 64) = 64 * c + chr s (a + i) % 64 := wrap64 (by omega) (by omega)
    have w6 : IntKind.i64.wrap (i + 1) = i + 1 := wrap64 (by omega) (by omega)
    simp only [Tr.run, rnd, w1, chr_def, w2, tdiv_nn hch, tmod_nn hch, w3, w4, w5, w6]
    by_cases hlt : i < n
    · have hfuel : (n - i).toNat + 1 = ((n - (i + 1)).toNat + 1) + 1 := by omega
      have hstep : wAll s a n i c = if a + i < s.length ∧ chr s (a + i) / 64 = 2 then wAll s a n (i + 1) (64 * c + chr s (a + i) % 64) else (false, c) := by
        unfold wAll
        rw [hfuel, wGo, if_pos hlt]
      rw [cnd_t (by simpa using hlt)]
      by_cases hl : a + i < s.length
      · rw [cnd_f (by simpa using hl), chk_t (by simp; omega), chk_t (by simp; omega)]
        by_cases h2 : chr s (a + i) / 64 = 2
        · rw [cnd_f (by simp [h2]), chk_t (by simp; omega), chk_t (by simp; omega)]
          have hp : 64 * c + chr s (a + i) % 64 < 64 ^ (i + 1).toNat := by
            have e : (i + 1).toNat = i.toNat + 1 := by omega
            rw [e, Int.pow_succ]
            have : c + 1 ≤ 64 ^ i.toNat := hc
            omega
          rw [ih (i + 1) _ (by omega) (by omega) (by omega) hp (by omega), hstep, if_pos ⟨hl, h2⟩]
        · rw [cnd_t (by simp [h2]), hstep, if_neg (fun h => h2 h.2)]
          rfl
      · rw [cnd_t (by simpa using hl), hstep, if_neg (fun h => hl h.1)]
        rfl
    · have : wAll s a n i c = (true, c) := by
        unfold wAll
        rw [wGo, if_neg hlt]
      rw [cnd_f (by simpa using hlt), this]
      rfl

theorem lps61 (F : Nat) (hF : 4 < F) : LpsOk (ctx F []) L61 (loopsOf (body Tryd.f61)) := by
  refine lps_one (c := lp Tryd.f61 0) rfl (by kernel_rfl) fun R st K r h => ?_
  unfold T61 at h
  cases hs : shape 100 [0, 1, 4, 6, 7, 8, 9] st.slots with
  | false => rw [hs] at h; simp [Tr.run] at h
  | true =>
  rw [hs] at h
  simp only [cond_true] at h
  have he := shape_eq hs
  obtain ⟨sl0, H⟩ := st
  dsimp only at h he ⊢
  split at h
  · rename_i s a r' n c l i e0 e1 e4 e6 e7 e8 e9
    simp only [List.map_cons, List.map_nil, e0, e1, e4, e6, e7, e8, e9] at he
    subst he
    simp only [Tr.run] at h
    cases hc : (decide (0 ≤ a) && decide (a < lim) && decide (1 ≤ i) && decide (i ≤ n) && decide (n ≤ 4) && decide (0 ≤ c) && decide (c < 64 ^ i.toNat)) with
    | false => rw [hc] at h; simp at h
    | true =>
    rw [hc] at h
    simp only [Bool.and_eq_true, decide_eq_true_eq] at hc
    obtain ⟨⟨⟨⟨⟨⟨h0, h1⟩, h2⟩, h3⟩, h4⟩, h5⟩, h6⟩ := hc
    refine (loop61 F s a r' n l K h0 h1 h4 F i c h2 h3 h5 h6 (by omega)).trans ?_
    rw [← h]
    cases (wAll s a n i c).1 <;> rfl
  · simp [Tr.run] at h
end Go.PS
end

section
namespace Go.PS
open Go.Proofs
/-- a byte, as a number; 0 behind the end -/
def byt (s : List UInt8) (k : Nat) : Nat := (s.getD k 0).toNat
/-- the code point at a place: the library's decoder -/
def dec (s : List UInt8) (k : Nat) : Nat × Nat := Lib.decodeN (s.length - k) (byt s k) (byt s (k + 1)) (byt s (k + 2)) (byt s (k + 3))
/-- how many bytes the code point at a place has; 0: none stands there -/
def width (s : List UInt8) (a : Int) : Int :=
  if 0 ≤ a ∧ a < s.length then (if (dec s a.toNat).2 = 1 ∧ 128 ≤ byt s a.toNat then 0 else (dec s a.toNat).2) else 0
def S61 : List PV → Tr PV
  | [.d (.str s), .d (.int .i64 a)] => .chk (decide (0 ≤ a) && decide (a + 4 < lim)) (.ok (.d (.int .i64 (width s a))))
  | _ => .no

theorem byt_lt (s : List UInt8) (k : Nat) : byt s k < 256 := (s.getD k 0).toNat_lt
theorem chr_byt (s : List UInt8) (k : Nat) : chr s (k : Int) = (byt s k : Int) := by unfold chr byt; simp
theorem chr_byt' (s : List UInt8) (k j : Nat) : chr s ((k : Int) + (j : Int)) = (byt s (k + j) : Int) := by
  rw [← chr_byt]; congr 1

theorem wAll2 (s : List UInt8) (a c : Int) : wAll s a 2 1 c = if a + 1 < s.length ∧ chr s (a + 1) / 64 = 2 then (true, 64 * c + chr s (a + 1) % 64) else (false, c) := by
  simp [wAll, wGo]
theorem wAll3 (s : List UInt8) (a c : Int) : wAll s a 3 1 c = if a + 1 < s.length ∧ chr s (a + 1) / 64 = 2 then (if a + 2 < s.length ∧ chr s (a + 2) / 64 = 2 then (true, 64 * (64 * c + chr s (a + 1) % 64) + chr s (a + 2) % 64) else (false, 64 * c + chr s (a + 1) % 64)) else (false, c) := by
  simp [wAll, wGo]
theorem wAll4 (s : List UInt8) (a c : Int) : wAll s a 4 1 c = if a + 1 < s.length ∧ chr s (a + 1) / 64 = 2 then (if a + 2 < s.length ∧ chr s (a + 2) / 64 = 2 then (if a + 3 < s.length ∧ chr s (a + 3) / 64 = 2 then (true, 64 * (64 * (64 * c + chr s (a + 1) % 64) + chr s (a + 2) % 64) + chr s (a + 3) % 64) else (false, 64 * (64 * c + chr s (a + 1) % 64) + chr s (a + 2) % 64)) else (false, 64 * c + chr s (a + 1) % 64)) else (false, c) := by
  simp [wAll, wGo]
end Go.PS
namespace Go.PS
open Go.Proofs
theorem fin_tree (n c l : Int) : PS.cnd (decide (c < l)) (some (PV.d (DV.int .i64 0)))
      (PS.cnd (decide (c ≥ 55296)) (PS.cnd (decide (c < 57344)) (some (PV.d (DV.int .i64 0))) (PS.cnd (decide (c > 1114111)) (some (PV.d (DV.int .i64 0))) (some (PV.d (DV.int .i64 n)))))
        (PS.cnd (decide (c > 1114111)) (some (PV.d (DV.int .i64 0))) (some (PV.d (DV.int .i64 n))))) =
    some (.d (.int .i64 (if c < l ∨ (55296 ≤ c ∧ c < 57344) ∨ 1114111 < c then 0 else n))) := by
  simp only [cnd_dec, ge_iff_le, gt_iff_lt]
  by_cases h1 : c < l
  · simp [h1]
  · by_cases h2 : 55296 ≤ c
    · by_cases h3 : c < 57344
      · simp [h1, h2, h3]
      · by_cases h4 : 1114111 < c <;> simp [h1, h2, h3, h4]
    · by_cases h4 : 1114111 < c <;> simp [h1, h2, h4]

theorem t61 {a c : Int} {n : Nat} (h0 : 0 ≤ a) (h1 : a < 4611686018427387904) (h2 : 1 ≤ n) (h3 : n ≤ 4) (h4 : 0 ≤ c) (h5 : c < 64) :
    (decide (0 ≤ a) && decide (a < lim) && decide (1 ≤ 1) && decide (1 ≤ n) && decide (n ≤ 4) && decide (0 ≤ c) && decide (c < 64 ^ Int.toNat 1)) = true := by
  simp only [Bool.and_eq_true, decide_eq_true_eq]
  exact ⟨⟨⟨⟨⟨⟨h0, h1⟩, Nat.le_refl _⟩, h2⟩, h3⟩, h4⟩, h5⟩

/-- what a lead byte and those behind it come to -/
def wOf (n l : Int) (p : Bool × Int) : Int := if p.1 then (if p.2 < l ∨ (55296 ≤ p.2 ∧ p.2 < 57344) ∨ 1114111 < p.2 then 0 else n) else 0
theorem wOf_tree (n l : Int) (p : Bool × Int) : PS.cnd p.1 (some (PV.d (DV.int .i64 (if p.2 < l ∨ (55296 ≤ p.2 ∧ p.2 < 57344) ∨ 1114111 < p.2 then 0 else n)))) (some (PV.d (DV.int .i64 0))) = some (.d (.int .i64 (wOf n l p))) := by
  unfold wOf
  cases p.1 <;> rfl

section
variable (s : List UInt8) (k : Nat) (hk : k < s.length)
include hk
theorem width_lo (c1 : byt s k < 128) : width s k = 1 := by
  unfold width
  rw [if_pos ⟨by omega, by omega⟩]
  simp only [Int.toNat_natCast, dec, Lib.decodeN, if_pos c1]
  rw [if_neg (by omega)]
  rfl
theorem width_2 (c1 : 192 ≤ byt s k) (c2 : byt s k < 224) : width s k = wOf 2 128 (wAll s k 2 1 ((byt s k : Int) - 192)) := by
  have hb := byt_lt s k
  have hb1 := byt_lt s (k + 1)
  have e1 : chr s ((k : Int) + 1) = (byt s (k + 1) : Int) := chr_byt' s k 1
  rw [wAll2, e1]
  unfold width
  rw [if_pos ⟨by omega, by omega⟩]
  have d1 : ¬ byt s k < 128 := by omega
  have d2 : byt s k / 32 = 6 := by omega
  have d3 : ¬ byt s k / 16 = 14 := by omega
  have d4 : ¬ byt s k / 8 = 30 := by omega
  have d5 : 128 ≤ byt s k := by omega
  simp only [Int.toNat_natCast, dec, Lib.decodeN, d1, d2, d3, d4, d5, if_false, true_and, false_and, and_true]
  by_cases hA : 1 < s.length - k ∧ byt s (k + 1) / 64 = 2
  · rw [if_pos hA, if_pos (show (k : Int) + 1 < s.length ∧ (byt s (k + 1) : Int) / 64 = 2 by omega)]
    simp only [wOf, if_true]
    by_cases hc : byt s k % 32 * 64 + byt s (k + 1) % 64 ≥ 128
    · rw [if_pos hc, if_neg (by simp), if_neg (by omega)]; rfl
    · rw [if_neg hc, if_pos rfl, if_pos (by omega)]
  · rw [if_neg hA, if_neg (show ¬ ((k : Int) + 1 < s.length ∧ (byt s (k + 1) : Int) / 64 = 2) by omega)]
    rfl
theorem width_3 (c1 : 224 ≤ byt s k) (c2 : byt s k < 240) : width s k = wOf 3 2048 (wAll s k 3 1 ((byt s k : Int) - 224)) := by
  have hb := byt_lt s k
  have hb1 := byt_lt s (k + 1)
  have hb2 := byt_lt s (k + 2)
  have e1 : chr s ((k : Int) + 1) = (byt s (k + 1) : Int) := chr_byt' s k 1
  have e2 : chr s ((k : Int) + 2) = (byt s (k + 2) : Int) := chr_byt' s k 2
  rw [wAll3, e1, e2]
  unfold width
  rw [if_pos ⟨by omega, by omega⟩]
  have d1 : ¬ byt s k < 128 := by omega
  have d2 : ¬ byt s k / 32 = 6 := by omega
  have d3 : byt s k / 16 = 14 := by omega
  have d4 : ¬ byt s k / 8 = 30 := by omega
  have d5 : 128 ≤ byt s k := by omega
  simp only [Int.toNat_natCast, dec, Lib.decodeN, d1, d2, d3, d4, d5, if_false, true_and, false_and, and_true]
  by_cases hA : (1 < s.length - k ∧ byt s (k + 1) / 64 = 2) ∧ (2 < s.length - k ∧ byt s (k + 2) / 64 = 2)
  · rw [if_pos hA, if_pos (show (k : Int) + 1 < s.length ∧ (byt s (k + 1) : Int) / 64 = 2 by omega), if_pos (show (k : Int) + 2 < s.length ∧ (byt s (k + 2) : Int) / 64 = 2 by omega)]
    simp only [wOf, if_true]
    by_cases hc : byt s k % 16 * 4096 + byt s (k + 1) % 64 * 64 + byt s (k + 2) % 64 ≥ 2048 ∧ (byt s k % 16 * 4096 + byt s (k + 1) % 64 * 64 + byt s (k + 2) % 64 < 55296 ∨ (57344 ≤ byt s k % 16 * 4096 + byt s (k + 1) % 64 * 64 + byt s (k + 2) % 64 ∧ byt s k % 16 * 4096 + byt s (k + 1) % 64 * 64 + byt s (k + 2) % 64 ≤ 1114111))
    · rw [if_pos hc, if_neg (by simp), if_neg (by omega)]; rfl
    · rw [if_neg hc, if_pos rfl, if_pos (by omega)]
  · rw [if_neg hA]
    by_cases hB : (k : Int) + 1 < s.length ∧ (byt s (k + 1) : Int) / 64 = 2
    · rw [if_pos hB, if_neg (show ¬ ((k : Int) + 2 < s.length ∧ (byt s (k + 2) : Int) / 64 = 2) by omega)]
      rfl
    · rw [if_neg hB]
      rfl
theorem width_4 (c1 : 240 ≤ byt s k) (c2 : byt s k < 248) : width s k = wOf 4 65536 (wAll s k 4 1 ((byt s k : Int) - 240)) := by
  have hb := byt_lt s k
  have hb1 := byt_lt s (k + 1)
  have hb2 := byt_lt s (k + 2)
  have hb3 := byt_lt s (k + 3)
  have e1 : chr s ((k : Int) + 1) = (byt s (k + 1) : Int) := chr_byt' s k 1
  have e2 : chr s ((k : Int) + 2) = (byt s (k + 2) : Int) := chr_byt' s k 2
  have e3 : chr s ((k : Int) + 3) = (byt s (k + 3) : Int) := chr_byt' s k 3
  rw [wAll4, e1, e2, e3]
  unfold width
  rw [if_pos ⟨by omega, by omega⟩]
  have d1 : ¬ byt s k < 128 := by omega
  have d2 : ¬ byt s k / 32 = 6 := by omega
  have d3 : ¬ byt s k / 16 = 14 := by omega
  have d4 : byt s k / 8 = 30 := by omega
  have d5 : 128 ≤ byt s k := by omega
  simp only [Int.toNat_natCast, dec, Lib.decodeN, d1, d2, d3, d4, d5, if_false, true_and, false_and, and_true]
  by_cases hA : (1 < s.length - k ∧ byt s (k + 1) / 64 = 2) ∧ (2 < s.length - k ∧ byt s (k + 2) / 64 = 2) ∧ (3 < s.length - k ∧ byt s (k + 3) / 64 = 2)
  · rw [if_pos hA, if_pos (show (k : Int) + 1 < s.length ∧ (byt s (k + 1) : Int) / 64 = 2 by omega), if_pos (show (k : Int) + 2 < s.length ∧ (byt s (k + 2) : Int) / 64 = 2 by omega), if_pos (show (k : Int) + 3 < s.length ∧ (byt s (k + 3) : Int) / 64 = 2 by omega)]
    simp only [wOf, if_true]
    by_cases hc : byt s k % 8 * 262144 + byt s (k + 1) % 64 * 4096 + byt s (k + 2) % 64 * 64 + byt s (k + 3) % 64 ≥ 65536 ∧ (byt s k % 8 * 262144 + byt s (k + 1) % 64 * 4096 + byt s (k + 2) % 64 * 64 + byt s (k + 3) % 64 < 55296 ∨ (57344 ≤ byt s k % 8 * 262144 + byt s (k + 1) % 64 * 4096 + byt s (k + 2) % 64 * 64 + byt s (k + 3) % 64 ∧ byt s k % 8 * 262144 + byt s (k + 1) % 64 * 4096 + byt s (k + 2) % 64 * 64 + byt s (k + 3) % 64 ≤ 1114111))
    · rw [if_pos hc, if_neg (by simp), if_neg (by omega)]; rfl
    · rw [if_neg hc, if_pos rfl, if_pos (by omega)]
  · rw [if_neg hA]
    by_cases hB : (k : Int) + 1 < s.length ∧ (byt s (k + 1) : Int) / 64 = 2
    · rw [if_pos hB]
      by_cases hC : (k : Int) + 2 < s.length ∧ (byt s (k + 2) : Int) / 64 = 2
      · rw [if_pos hC, if_neg (show ¬ ((k : Int) + 3 < s.length ∧ (byt s (k + 3) : Int) / 64 = 2) by omega)]
        rfl
      · rw [if_neg hC]
        rfl
    · rw [if_neg hB]
      rfl
theorem width_no (c1 : 128 ≤ byt s k) (c2 : byt s k < 192 ∨ 248 ≤ byt s k) : width s k = 0 := by
  have hb := byt_lt s k
  unfold width
  rw [if_pos ⟨by omega, by omega⟩]
  have d1 : ¬ byt s k < 128 := by omega
  have d2 : ¬ byt s k / 32 = 6 := by omega
  have d3 : ¬ byt s k / 16 = 14 := by omega
  have d4 : ¬ byt s k / 8 = 30 := by omega
  simp [dec, Lib.decodeN, d1, d2, d3, d4, c1]
end

set_option maxHeartbeats 4000000 in
theorem ok61 (W0 : World) : EKOk Tryd.prog W0 61 (.pure S61) := by
  refine pure_of (tyOk 5 []) (look_ok all_nil) mixed fn61 (lps61 5 (by omega)) fun args r h => ?_
  unfold S61 at h
  split at h
  · rename_i s a
    refine (run61 5 s a).trans ?_
    rw [← h]
    simp only [Tr.val_chk, chk_some, Bool.and_eq_true, decide_eq_true_eq] at h
    obtain ⟨⟨h0, h1⟩, _⟩ := h
    unfold lim at h1
    obtain ⟨k, rfl⟩ := Int.eq_ofNat_of_zero_le h0
    have hb := byt_lt s k
    have e0 : chr s (k : Int) = (byt s k : Int) := chr_byt s k
    have w0 : IntKind.i64.wrap (byt s k : Int) = (byt s k : Int) := wrap64 (by omega) (by omega)
    have w1 : IntKind.i64.wrap ((byt s k : Int) - 192) = (byt s k : Int) - 192 := wrap64 (by omega) (by omega)
    have w2 : IntKind.i64.wrap ((byt s k : Int) - 224) = (byt s k : Int) - 224 := wrap64 (by omega) (by omega)
    have w3 : IntKind.i64.wrap ((byt s k : Int) - 240) = (byt s k : Int) - 240 := wrap64 (by omega) (by omega)
    simp only [Tr.val_ok, Tr.val_cnd, Tr.val_chk, chr_def, e0, w0, w1, w2, w3, fin_tree, wOf_tree]
    rw [chk_t (lim_ok h0 (m := (k : Int) + 4) (by omega))]
    rw [cnd_f (b := decide ((k : Int) < 0)) (by simp only [decide_eq_false_iff_not]; omega)]
    by_cases hk : k < s.length
    · rw [cnd_f (b := decide ((k : Int) ≥ s.length)) (by simp only [decide_eq_false_iff_not]; omega), chk_t (by simp only [decide_eq_true_eq]; omega), chk_t (by simpa using hk)]
      by_cases c1 : byt s k < 128
      · rw [cnd_t (by simp only [decide_eq_true_eq]; omega), width_lo s k hk c1]
      · rw [cnd_f (by simp only [decide_eq_false_iff_not]; omega)]
        by_cases c2 : 192 ≤ byt s k
        · rw [cnd_t (b := decide ((byt s k : Int) ≥ 192)) (by simp only [decide_eq_true_eq]; omega)]
          by_cases c3 : byt s k < 224
          · rw [cnd_t (b := decide ((byt s k : Int) < 224)) (by simp only [decide_eq_true_eq]; omega), chk_t (t61 (n := 2) h0 (by omega) (by omega) (by omega) (by omega) (by omega)), width_2 s k hk c2 c3]
          · rw [cnd_f (b := decide ((byt s k : Int) < 224)) (by simp only [decide_eq_false_iff_not]; omega), cnd_t (b := decide ((byt s k : Int) ≥ 224)) (by simp only [decide_eq_true_eq]; omega)]
            by_cases c4 : byt s k < 240
            · rw [cnd_t (b := decide ((byt s k : Int) < 240)) (by simp only [decide_eq_true_eq]; omega), chk_t (t61 (n := 3) h0 (by omega) (by omega) (by omega) (by omega) (by omega)), width_3 s k hk (by omega) c4]
            · rw [cnd_f (b := decide ((byt s k : Int) < 240)) (by simp only [decide_eq_false_iff_not]; omega), cnd_t (b := decide ((byt s k : Int) ≥ 240)) (by simp only [decide_eq_true_eq]; omega)]
              by_cases c5 : byt s k < 248
              · rw [cnd_t (b := decide ((byt s k : Int) < 248)) (by simp only [decide_eq_true_eq]; omega), chk_t (t61 (n := 4) h0 (by omega) (by omega) (by omega) (by omega) (by omega)), width_4 s k hk (by omega) c5]
              · rw [cnd_f (b := decide ((byt s k : Int) < 248)) (by simp only [decide_eq_false_iff_not]; omega), width_no s k hk (by omega) (by omega)]
        · rw [cnd_f (b := decide ((byt s k : Int) ≥ 192)) (by simp only [decide_eq_false_iff_not]; omega), cnd_f (b := decide ((byt s k : Int) ≥ 224)) (by simp only [decide_eq_false_iff_not]; omega), cnd_f (b := decide ((byt s k : Int) ≥ 240)) (by simp only [decide_eq_false_iff_not]; omega), width_no s k hk (by omega) (by omega)]
    · rw [cnd_t (by simp only [decide_eq_true_eq]; omega)]
      unfold width
      rw [if_neg (fun h => hk (by omega))]
  · simp [Tr.val_no] at h
end Go.PS
end

section
namespace Go.PS
open Go.Proofs
theorem get_bang (l : List UInt8) (i : Nat) : (⟨l.toArray⟩ : ByteArray).get! i = l.getD i 0 := by
  unfold ByteArray.get!
  simp [List.getD_eq_getElem?_getD]
  cases h : l[i]? <;> simp [getElem!_def, h]
  rfl
theorem dec_drop (s : List UInt8) (k : Nat) (h : k < s.length) : Lib.decodeGo ⟨(s.drop k).toArray⟩ = dec s k := by
  unfold Lib.decodeGo
  have hs : (⟨(s.drop k).toArray⟩ : ByteArray).size = s.length - k := by show (s.drop k).toArray.size = _; simp
  rw [if_neg (by rw [hs]; omega), Lib.decode_at, hs]
  simp only [get_bang]
  unfold dec byt
  have e : ∀ j, (s.drop k).getD j 0 = s.getD (k + j) 0 := by
    intro j
    simp [List.getD_eq_getElem?_getD, List.getElem?_drop]
  simp only [Nat.zero_add, Nat.sub_zero, e, Nat.add_zero]
end Go.PS
namespace Go.PS
open Go.Proofs
theorem dec_cases (s : List UInt8) (k : Nat) (h : k < s.length) : (byt s k < 128 ∧ dec s k = (byt s k, 1) ∧ width s k = 1) ∨
    (128 ≤ byt s k ∧ dec s k = (65533, 1) ∧ width s k = 0) ∨ (128 ≤ byt s k ∧ 128 ≤ (dec s k).1 ∧ 2 ≤ (dec s k).2 ∧ (dec s k).2 ≤ s.length - k ∧ width s k = (dec s k).2) := by
  have hw : width s k = if (dec s k).2 = 1 ∧ 128 ≤ byt s k then 0 else ((dec s k).2 : Int) := by
    unfold width
    rw [if_pos ⟨by omega, by omega⟩]
    simp only [Int.toNat_natCast]
  have hd : dec s k = Lib.decodeN (s.length - k) (byt s k) (byt s (k + 1)) (byt s (k + 2)) (byt s (k + 3)) := rfl
  by_cases c : byt s k < 128
  · left
    have : dec s k = (byt s k, 1) := by rw [hd]; unfold Lib.decodeN; rw [if_pos c]
    exact ⟨c, this, width_lo s k h c⟩
  · right
    unfold Lib.decodeN at hd
    rw [if_neg c] at hd
    split at hd
    · rename_i g
      split at hd
      · right; rw [hw, hd]; exact ⟨by omega, by simp only; omega, by simp, by simp only; omega, by simp⟩
      · left; rw [hw, hd]; exact ⟨by omega, rfl, if_pos ⟨rfl, by omega⟩⟩
    · split at hd
      · rename_i g
        split at hd
        · right; rw [hw, hd]; exact ⟨by omega, by simp only; omega, by simp, by simp only; omega, by simp⟩
        · left; rw [hw, hd]; exact ⟨by omega, rfl, if_pos ⟨rfl, by omega⟩⟩
      · split at hd
        · rename_i g
          split at hd
          · right; rw [hw, hd]; exact ⟨by omega, by simp only; omega, by simp, by simp only; omega, by simp⟩
          · left; rw [hw, hd]; exact ⟨by omega, rfl, if_pos ⟨rfl, by omega⟩⟩
        · left; rw [hw, hd]; exact ⟨by omega, rfl, if_pos ⟨rfl, by omega⟩⟩

/-- what a value's text comes to: the value, the place, the error; and where its reader stands, and whether it ran off the end -/
structure VR where
  kind : Int
  n : Int
  txt : List UInt8
  pos : Int
  err : Int
  fin : Int
  off : Bool

def VR.pv (r : VR) : PV := .tup [.d (.agg [.int .i64 r.kind, .int .i64 r.n, .str r.txt]), .d (.int .i64 r.pos), .d (.int .i64 r.err)]

def textGo (s : List UInt8) : Nat → Int → List UInt8 → VR
  | 0, a, _ => ⟨0, 0, [], s.length, 3, a, true⟩
  | m + 1, a, out =>
    if a < s.length then
      (if chr s a = 34 then
        (if a + 1 < s.length then ⟨0, 0, [], a + 1, 4, a + 1, false⟩ else if 40 < out.length then ⟨0, 0, [], 0, 5, a + 1, false⟩ else ⟨2, 0, out, a + 1, 0, a + 1, false⟩)
      else if chr s a = 92 then
        (if escV s (a + 1) < 0 then ⟨0, 0, [], failN s (escTo s (a + 1)), failE s (escTo s (a + 1)), escTo s (a + 1), false⟩
        else textGo s m (escTo s (a + 1)) (out ++ [UInt8.ofNat (escV s (a + 1)).toNat]))
      else if width s a = 0 ∨ chr s a < 32 ∨ chr s a = 127 then ⟨0, 0, [], a, 4, a, false⟩
      else textGo s m (a + width s a) (out ++ (s.drop a.toNat).take (width s a).toNat))
    else ⟨0, 0, [], s.length, 3, a, true⟩

/-- more rounds than any text wants -/
def FU : Nat := 10000000
def big : Nat := 1000000

def T43 (st : St) : Tr (Ex × St) :=
  bif shape 148 [0, 2, 3, 4, 5] st.slots then
    match gt .undef st.slots 0, gt .undef st.slots 2, gt .undef st.slots 3, gt .undef st.slots 4, gt .undef st.slots 5, st.heap with
    | .ptr 0 0, .ptr 1 0, .d (.int .i64 e3), .d (.int .i64 e4), .own 1 l, [.cells [.d (.str s), .d (.int .i64 a)], .cells [.d (.int .i64 k0), .d (.int .i64 n0), .d (.str t0)]] =>
      .chk (decide (0 ≤ a) && decide (a ≤ s.length) && decide (s.length ≤ big) && allU8 l && decide (l.length ≤ a)) (.cnd (textGo s FU a (bytesOf l)).off
        (.ok (.exit 0, ⟨slots 148 [(0, .ptr 0 0), (2, .ptr 1 0), (3, .d (.int .i64 e3)), (4, .d (.int .i64 e4))], [.cells [.d (.str s), .d (.int .i64 (textGo s FU a (bytesOf l)).fin)], .cells [.d (.int .i64 k0), .d (.int .i64 n0), .d (.str t0)]]⟩))
        (.ok (.ret, ⟨slots 148 [(0, .ptr 0 0), (2, .ptr 1 0), (3, .d (.int .i64 (textGo s FU a (bytesOf l)).pos)), (4, .d (.int .i64 (textGo s FU a (bytesOf l)).err))], [.cells [.d (.str s), .d (.int .i64 (textGo s FU a (bytesOf l)).fin)], .cells [.d (.int .i64 (textGo s FU a (bytesOf l)).kind), .d (.int .i64 (textGo s FU a (bytesOf l)).n), .d (.str (textGo s FU a (bytesOf l)).txt)]]⟩)))
    | _, _, _, _, _, _ => .no
  else .no
def L43 : Lps := fun i => bif Nat.beq i 3 then some (allBut 148 [0, 2, 3, 4, 5], allBut 148 [0, 2, 3, 4], T43) else none
end Go.PS
end

section
namespace Go.PS
open Go.Proofs
set_option maxRecDepth 100000
theorem round43_0 (F : Nat) {R : Type} (s : List UInt8) (n e3 e4 k0 n0 : Int) (t0 : List UInt8) (l : List DV) (K : Ex → St → Option R) (G : St → Option R) : roundK (pcodeK (ctx F [(45, .eff (frameT S45)), (75, .pure S75), (76, .eff (frameT S76))]) L43 (lp Tryd.f43 0)) 2 (allBut 148 [0, 2, 3, 4, 5] ++ temps (lp Tryd.f43 0)) (allBut 148 [0, 2, 3, 4]) ⟨slots 148 [(0, .ptr 0 0), (2, .ptr 1 0), (3, .d (.int .i64 e3)), (4, .d (.int .i64 e4)), (5, .own 1 l)], [.cells [.d (.str s), .d (.int .i64 n)], .cells [.d (.int .i64 k0), .d (.int .i64 n0), .d (.str t0)]]⟩ K G =
    Tr.run
      (.cnd (decide (n < (↑s.length : Int)))
        (.chk (decide (0 ≤ n))
        (.chk (decide (n ≤ (↑s.length : Int)))
        (.chk (decide ((↑s.length : Int) ≤ (↑s.length : Int)))
        (.cnd (decide (runeC (List.drop n.toNat (List.take (↑s.length : Int).toNat s)) = 34))
          (.cnd (decide (IntKind.i64.wrap (n + 1) < (↑s.length : Int)))
            (.ok (.inl (Ex.ret, ⟨slots 148 [(0, PV.ptr 0 0), (2, PV.ptr 1 0), (3, PV.d (DV.int IntKind.i64 (failN s (IntKind.i64.wrap (n + 1))))), (4, PV.d (DV.int IntKind.i64 (failE s (IntKind.i64.wrap (n + 1)))))], [PObj.cells [PV.d (DV.str s), PV.d (DV.int IntKind.i64 (IntKind.i64.wrap (n + 1)))],
        PObj.cells [PV.d (DV.int IntKind.i64 (0)), PV.d (DV.int IntKind.i64 (0)), PV.d (DV.str [])]]⟩)))
            (.cnd (decide ((↑l.length : Int) > 40))
              (.ok (.inl (Ex.ret, ⟨slots 148 [(0, PV.ptr 0 0), (2, PV.ptr 1 0), (3, PV.d (DV.int IntKind.i64 (0))), (4, PV.d (DV.int IntKind.i64 (5)))], [PObj.cells [PV.d (DV.str s), PV.d (DV.int IntKind.i64 (IntKind.i64.wrap (n + 1)))],
        PObj.cells [PV.d (DV.int IntKind.i64 (0)), PV.d (DV.int IntKind.i64 (0)), PV.d (DV.str [])]]⟩)))
              (.chk (allU8 l)
              (.ok (.inl (Ex.ret, ⟨slots 148 [(0, PV.ptr 0 0), (2, PV.ptr 1 0), (3, PV.d (DV.int IntKind.i64 (IntKind.i64.wrap (n + 1)))), (4, PV.d (DV.int IntKind.i64 (0)))], [PObj.cells [PV.d (DV.str s), PV.d (DV.int IntKind.i64 (IntKind.i64.wrap (n + 1)))],
        PObj.cells
          [PV.d (DV.int IntKind.i64 (2)), PV.d (DV.int IntKind.i64 (0)), PV.d (DV.str (bytesOf l))]]⟩))))))
          (.cnd (decide (runeC (List.drop n.toNat (List.take (↑s.length : Int).toNat s)) = 92))
            (.chk (decide (0 ≤ IntKind.i64.wrap (n + 1)) && decide (IntKind.i64.wrap (n + 1) + 3 < lim))
            (.cnd (!decide (0 ≤ escV s (IntKind.i64.wrap (n + 1))))
              (.ok (.inl (Ex.ret, ⟨slots 148 [(0, PV.ptr 0 0), (2, PV.ptr 1 0), (3, PV.d (DV.int IntKind.i64 (failN s (escTo s (IntKind.i64.wrap (n + 1)))))), (4, PV.d (DV.int IntKind.i64 (failE s (escTo s (IntKind.i64.wrap (n + 1))))))], [PObj.cells [PV.d (DV.str s), PV.d (DV.int IntKind.i64 (escTo s (IntKind.i64.wrap (n + 1))))],
        PObj.cells [PV.d (DV.int IntKind.i64 (0)), PV.d (DV.int IntKind.i64 (0)), PV.d (DV.str [])]]⟩)))
              (.chk (limit 1
        (l.length +
          (fillS (rep 1 (zeroDV ((ctx F [(45, EK.eff (frameT S45)), (75, EK.pure S75), (76, EK.eff (frameT S76))]).ty 5)))
              [(0,
                  DV.int IntKind.u8
                    (if escV s (IntKind.i64.wrap (n + 1)) < 0 then 0 else escV s (IntKind.i64.wrap (n + 1))))]).length))
              (.ok (.inr ⟨slots 148 [(0, PV.ptr 0 0), (2, PV.ptr 1 0), (3, PV.d (DV.int IntKind.i64 e3)), (4, PV.d (DV.int IntKind.i64 e4)), (5, PV.own 1
        (l ++ [DV.int IntKind.u8 (if escV s (IntKind.i64.wrap (n + 1)) < 0 then 0 else escV s (IntKind.i64.wrap (n + 1)))]))], [PObj.cells [PV.d (DV.str s), PV.d (DV.int IntKind.i64 (escTo s (IntKind.i64.wrap (n + 1))))],
        PObj.cells [PV.d (DV.int IntKind.i64 k0), PV.d (DV.int IntKind.i64 n0), PV.d (DV.str t0)]]⟩)))))
            (.cnd (decide (runeC (List.drop n.toNat (List.take (↑s.length : Int).toNat s)) < 32))
              (.ok (.inl (Ex.ret, ⟨slots 148 [(0, PV.ptr 0 0), (2, PV.ptr 1 0), (3, PV.d (DV.int IntKind.i64 (failN s n))), (4, PV.d (DV.int IntKind.i64 (failE s n)))], [PObj.cells [PV.d (DV.str s), PV.d (DV.int IntKind.i64 n)],
        PObj.cells [PV.d (DV.int IntKind.i64 (0)), PV.d (DV.int IntKind.i64 (0)), PV.d (DV.str [])]]⟩)))
              (.cnd (decide (runeC (List.drop n.toNat (List.take (↑s.length : Int).toNat s)) = 127))
                (.ok (.inl (Ex.ret, ⟨slots 148 [(0, PV.ptr 0 0), (2, PV.ptr 1 0), (3, PV.d (DV.int IntKind.i64 (failN s n))), (4, PV.d (DV.int IntKind.i64 (failE s n)))], [PObj.cells [PV.d (DV.str s), PV.d (DV.int IntKind.i64 n)],
        PObj.cells [PV.d (DV.int IntKind.i64 (0)), PV.d (DV.int IntKind.i64 (0)), PV.d (DV.str [])]]⟩)))
                (.cnd (decide (runeC (List.drop n.toNat (List.take (↑s.length : Int).toNat s)) = 65533))
                  (.cnd (decide (runeN (List.drop n.toNat (List.take (↑s.length : Int).toNat s)) < 2))
                    (.ok (.inl (Ex.ret, ⟨slots 148 [(0, PV.ptr 0 0), (2, PV.ptr 1 0), (3, PV.d (DV.int IntKind.i64 (failN s n))), (4, PV.d (DV.int IntKind.i64 (failE s n)))], [PObj.cells [PV.d (DV.str s), PV.d (DV.int IntKind.i64 n)],
        PObj.cells [PV.d (DV.int IntKind.i64 (0)), PV.d (DV.int IntKind.i64 (0)), PV.d (DV.str [])]]⟩)))
                    (.chk (decide (0 ≤ n))
                    (.chk (decide (n ≤ IntKind.i64.wrap (n + runeN (List.drop n.toNat (List.take (↑s.length : Int).toNat s)))))
                    (.chk (decide (IntKind.i64.wrap (n + runeN (List.drop n.toNat (List.take (↑s.length : Int).toNat s))) ≤ (↑s.length : Int)))
                    (.chk (limit 1
        (l.length +
          (List.drop n.toNat
              (List.take (IntKind.i64.wrap (n + runeN (List.drop n.toNat (List.take (↑s.length : Int).toNat s)))).toNat
                s)).length))
                    (.ok (.inr ⟨slots 148 [(0, PV.ptr 0 0), (2, PV.ptr 1 0), (3, PV.d (DV.int IntKind.i64 e3)), (4, PV.d (DV.int IntKind.i64 e4)), (5, PV.own 1
        (l ++
          bytesDV
            (List.drop n.toNat
              (List.take (IntKind.i64.wrap (n + runeN (List.drop n.toNat (List.take (↑s.length : Int).toNat s)))).toNat s))))], [PObj.cells
          [PV.d (DV.str s),
            PV.d
              (DV.int IntKind.i64 (IntKind.i64.wrap (n + runeN (List.drop n.toNat (List.take (↑s.length : Int).toNat s)))))],
        PObj.cells [PV.d (DV.int IntKind.i64 k0), PV.d (DV.int IntKind.i64 n0), PV.d (DV.str t0)]]⟩)))))))
                  (.chk (decide (0 ≤ n))
                  (.chk (decide (n ≤ IntKind.i64.wrap (n + runeN (List.drop n.toNat (List.take (↑s.length : Int).toNat s)))))
                  (.chk (decide (IntKind.i64.wrap (n + runeN (List.drop n.toNat (List.take (↑s.length : Int).toNat s))) ≤ (↑s.length : Int)))
                  (.chk (limit 1
        (l.length +
          (List.drop n.toNat
              (List.take (IntKind.i64.wrap (n + runeN (List.drop n.toNat (List.take (↑s.length : Int).toNat s)))).toNat
                s)).length))
                  (.ok (.inr ⟨slots 148 [(0, PV.ptr 0 0), (2, PV.ptr 1 0), (3, PV.d (DV.int IntKind.i64 e3)), (4, PV.d (DV.int IntKind.i64 e4)), (5, PV.own 1
        (l ++
          bytesDV
            (List.drop n.toNat
              (List.take (IntKind.i64.wrap (n + runeN (List.drop n.toNat (List.take (↑s.length : Int).toNat s)))).toNat s))))], [PObj.cells
          [PV.d (DV.str s),
            PV.d
              (DV.int IntKind.i64 (IntKind.i64.wrap (n + runeN (List.drop n.toNat (List.take (↑s.length : Int).toNat s)))))],
        PObj.cells [PV.d (DV.int IntKind.i64 k0), PV.d (DV.int IntKind.i64 n0), PV.d (DV.str t0)]]⟩))))))))))))))
        (.ok (.inl (Ex.exit 0, ⟨slots 148 [(0, PV.ptr 0 0), (2, PV.ptr 1 0), (3, PV.d (DV.int IntKind.i64 e3)), (4, PV.d (DV.int IntKind.i64 e4))], [PObj.cells [PV.d (DV.str s), PV.d (DV.int IntKind.i64 n)],
        PObj.cells [PV.d (DV.int IntKind.i64 k0), PV.d (DV.int IntKind.i64 n0), PV.d (DV.str t0)]]⟩)))) (rnd K G) := by kernel_rfl
/-! (*fasti value.reader).text -/
theorem fn43 : FnOk Tryd.prog 43 148 [.cell 2 33, .tmp 3, .tmp 4] (body Tryd.f43) := ⟨Tryd.f43, Tryd.func43, bodySome _ (by kernel_rfl), by kernel_rfl, by kernel_rfl, by kernel_rfl, by kernel_rfl⟩
theorem run43 (F : Nat) (s : List UInt8) (n : Int) : runE (ctx F [(45, .eff (frameT S45)), (75, .pure S75), (76, .eff (frameT S76))]) L43 148 [.cell 2 33, .tmp 3, .tmp 4] (body Tryd.f43) [.ptr 0 0] [.cells [.d (.str s), .d (.int .i64 n)]] =
    Tr.val
      (.chk (decide (0 ≤ 1) && decide (1 ≤ (↑s.length : Int)) && decide (s.length ≤ big) && allU8 [] &&
        decide ((0 : Int) ≤ 1))
      (.cnd ((textGo s FU 1 (bytesOf [])).off)
        (.ok ((Out.ret
          (PV.tup
            [PV.d (DV.agg [DV.int IntKind.i64 (0), DV.int IntKind.i64 (0), DV.str []]),
              PV.d (DV.int IntKind.i64 (failN s (textGo s FU 1 (bytesOf [])).fin)),
              PV.d (DV.int IntKind.i64 (failE s (textGo s FU 1 (bytesOf [])).fin))]),
        [PObj.cells [PV.d (DV.str s), PV.d (DV.int IntKind.i64 (textGo s FU 1 (bytesOf [])).fin)]])))
        (.ok ((Out.ret
          (PV.tup
            [PV.d
                (DV.agg
                  [DV.int IntKind.i64 (textGo s FU 1 (bytesOf [])).kind, DV.int IntKind.i64 (textGo s FU 1 (bytesOf [])).n,
                    DV.str (textGo s FU 1 (bytesOf [])).txt]),
              PV.d (DV.int IntKind.i64 (textGo s FU 1 (bytesOf [])).pos),
              PV.d (DV.int IntKind.i64 (textGo s FU 1 (bytesOf [])).err)]),
        [PObj.cells [PV.d (DV.str s), PV.d (DV.int IntKind.i64 (textGo s FU 1 (bytesOf [])).fin)]]))))) := by kernel_rfl
end Go.PS
end

section
namespace Go.PS
open Go.Proofs

theorem bytesOf_append (l r : List DV) : bytesOf (l ++ r) = bytesOf l ++ bytesOf r := by
  induction l with
  | nil => rfl
  | cons v l ih => cases v <;> simp [bytesOf, ih]
theorem bytesOf_bytesDV (s : List UInt8) : bytesOf (bytesDV s) = s := by
  induction s with
  | nil => rfl
  | cons b s ih =>
    simp only [bytesDV, List.map_cons, bytesOf, Int.toNat_natCast] at ih ⊢
    rw [ih]; simp
theorem allU8_append {l r : List DV} (h1 : allU8 l = true) (h2 : allU8 r = true) : allU8 (l ++ r) = true := by
  induction l with
  | nil => exact h2
  | cons v l ih =>
    cases v <;> simp only [allU8, List.cons_append] at h1 ⊢ <;> try (simp at h1; done)
    rename_i k n
    cases k <;> simp only [allU8] at h1 ⊢ <;> first | exact ih h1 | (simp at h1; done)
theorem allU8_bytesDV (s : List UInt8) : allU8 (bytesDV s) = true := by
  induction s with
  | nil => rfl
  | cons b s ih => exact ih
theorem bytesOf_length {l : List DV} (h : allU8 l = true) : (bytesOf l).length = l.length := by
  induction l with
  | nil => rfl
  | cons v l ih =>
    cases v with
    | int k n => cases k <;> first | (simp [bytesOf, ih h]; done) | (simp [allU8] at h; done)
    | _ => simp [allU8] at h

/-- escapes end within the text -/
theorem escTo_range (s : List UInt8) (n : Int) (h1 : n ≤ s.length) : n ≤ escTo s n ∧ escTo s n ≤ s.length ∧ (0 ≤ escV s n → n + 1 ≤ escTo s n) ∧ escV s n < 256 := by
  have hc := chr_lt s n
  unfold escTo escV hexTo hexV
  by_cases hn : n < s.length
  · rw [if_pos hn, if_pos hn]
    by_cases c1 : chr s n = 34
    · simp only [c1, if_true]; omega
    · by_cases c2 : chr s n = 92
      · simp only [if_neg c1, if_pos c2]; omega
      · by_cases c3 : chr s n = 110
        · simp only [if_neg c1, if_neg c2, if_pos c3]; omega
        · by_cases c4 : chr s n = 120
          · simp only [if_neg c1, if_neg c2, if_neg c3, if_pos c4]
            by_cases g1 : hex1 s (n + 1) = true
            · have k1 := of_decide_eq_true (Bool.and_eq_true_iff.1 g1).1
              by_cases g2 : hex2 s (n + 1) = true
              · have k2 := of_decide_eq_true (Bool.and_eq_true_iff.1 g2).1
                by_cases g3 : escBad (hexB s (n + 1)) = true
                · simp only [g1, g2, g3, if_true]; omega
                · simp only [g1, g2, if_true, if_neg g3]
                  have hb : hexB s (n + 1) < 256 := by
                    unfold escBad at g3
                    simp only [Bool.or_eq_true, Bool.and_eq_true, decide_eq_true_eq] at g3
                    by_cases hh : hexB s (n + 1) = 127
                    · omega
                    · by_cases h32 : 32 ≤ hexB s (n + 1)
                      · exact absurd (Or.inr ⟨h32, hh⟩) g3
                      · omega
                  omega
              · simp only [if_pos g1, if_neg g2]; omega
            · simp only [if_neg g1]; omega
          · simp only [if_neg c1, if_neg c2, if_neg c3, if_neg c4]; omega
  · rw [if_neg hn, if_neg hn]; omega

def ext43 {R : Type} (K : Ex → St → Option R) (s : List UInt8) (e3 e4 k0 n0 : Int) (t0 : List UInt8) (r : VR) : Option R :=
  PS.cnd r.off
    (K (.exit 0) ⟨slots 148 [(0, .ptr 0 0), (2, .ptr 1 0), (3, .d (.int .i64 e3)), (4, .d (.int .i64 e4))], [.cells [.d (.str s), .d (.int .i64 r.fin)], .cells [.d (.int .i64 k0), .d (.int .i64 n0), .d (.str t0)]]⟩)
    (K .ret ⟨slots 148 [(0, .ptr 0 0), (2, .ptr 1 0), (3, .d (.int .i64 r.pos)), (4, .d (.int .i64 r.err))], [.cells [.d (.str s), .d (.int .i64 r.fin)], .cells [.d (.int .i64 r.kind), .d (.int .i64 r.n), .d (.str r.txt)]]⟩)

theorem fillS_one (z v : DV) : (fillS (rep 1 z) [(0, v)]).length = 1 := rfl

set_option maxHeartbeats 2000000 in
theorem loop43 (F : Nat) {R : Type} (s : List UInt8) (e3 e4 k0 n0 : Int) (t0 : List UInt8) (K : Ex → St → Option R) (hs : s.length ≤ 1000000) :
    ∀ (m : Nat) (a : Int) (l : List DV), 0 ≤ a → a ≤ s.length → allU8 l = true → l.length ≤ a → (s.length - a).toNat < m →
      loopK (pcodeK (ctx F [(45, .eff (frameT S45)), (75, .pure S75), (76, .eff (frameT S76))]) L43 (lp Tryd.f43 0)) 2 (allBut 148 [0, 2, 3, 4, 5] ++ temps (lp Tryd.f43 0)) (allBut 148 [0, 2, 3, 4]) m
        ⟨slots 148 [(0, .ptr 0 0), (2, .ptr 1 0), (3, .d (.int .i64 e3)), (4, .d (.int .i64 e4)), (5, .own 1 l)], [.cells [.d (.str s), .d (.int .i64 a)], .cells [.d (.int .i64 k0), .d (.int .i64 n0), .d (.str t0)]]⟩ K =
      ext43 K s e3 e4 k0 n0 t0 (textGo s m a (bytesOf l)) := by
  intro m
  induction m with
  | zero => intro a l _ _ _ _ hm; omega
  | succ m ih =>
    intro a l h0 h1 hu hl hm
    rw [loopK_succ, round43_0]
    obtain ⟨k, rfl⟩ := Int.eq_ofNat_of_zero_le h0
    have w1 : IntKind.i64.wrap ((k : Int) + 1) = (k : Int) + 1 := wrap64 (by omega) (by omega)
    simp only [Tr.run, rnd, w1, Int.toNat_natCast, List.take_length]
    have step : ∀ w : Nat, 1 ≤ w → k + w ≤ s.length → ∀ x : Int, x = ((k + w : Nat) : Int) → ∀ y : Nat, y = k + w →
        PS.chk (decide ((0 : Int) ≤ k)) (PS.chk (decide ((k : Int) ≤ x)) (PS.chk (decide (x ≤ (s.length : Int))) (PS.chk (limit 1 (l.length + (List.drop k (List.take y s)).length))
          (loopK (pcodeK (ctx F [(45, .eff (frameT S45)), (75, .pure S75), (76, .eff (frameT S76))]) L43 (lp Tryd.f43 0)) 2 (allBut 148 [0, 2, 3, 4, 5] ++ temps (lp Tryd.f43 0)) (allBut 148 [0, 2, 3, 4]) m
            ⟨slots 148 [(0, .ptr 0 0), (2, .ptr 1 0), (3, .d (.int .i64 e3)), (4, .d (.int .i64 e4)), (5, .own 1 (l ++ bytesDV (List.drop k (List.take y s))))], [.cells [.d (.str s), .d (.int .i64 x)], .cells [.d (.int .i64 k0), .d (.int .i64 n0), .d (.str t0)]]⟩ K)))) =
        ext43 K s e3 e4 k0 n0 t0 (textGo s m ((k : Int) + (w : Int)) (bytesOf l ++ (s.drop k).take w)) := by
      intro w hw1 hw2 x hx y hy
      subst hx hy
      have e : List.drop k (List.take (k + w) s) = (s.drop k).take w := by rw [List.drop_take]; congr 1; omega
      rw [e]
      have hlen : ((s.drop k).take w).length = w := by simp; omega
      rw [chk_t (by simp only [decide_eq_true_eq]; omega), chk_t (by simp only [decide_eq_true_eq]; omega), chk_t (by simp only [decide_eq_true_eq]; omega), chk_t (by simp only [limit, decide_eq_true_eq, hlen]; omega)]
      rw [ih _ _ (by omega) (by omega) (allU8_append hu (allU8_bytesDV _)) (by rw [List.length_append]; unfold bytesDV; rw [List.length_map, hlen]; omega) (by omega), bytesOf_append, bytesOf_bytesDV]
      rfl
    have hcb : chr s (k : Int) = (byt s k : Int) := chr_byt s k
    by_cases hk : k < s.length
    · have hki : (k : Int) < s.length := by omega
      rw [cnd_t (b := decide ((k : Int) < s.length)) (by simpa using hk), chk_t (b := decide ((0 : Int) ≤ k)) (by simp only [decide_eq_true_eq]; omega), chk_t (b := decide ((k : Int) ≤ s.length)) (by simp only [decide_eq_true_eq]; omega), chk_t (b := decide ((s.length : Int) ≤ s.length)) (by simp)]
      have hr : runeC (List.drop k s) = ((dec s k).1 : Int) := by unfold runeC; rw [dec_drop s k hk]
      have hr2 : runeN (List.drop k s) = ((dec s k).2 : Int) := by unfold runeN; rw [dec_drop s k hk]
      rw [hr, hr2]
      rcases dec_cases s k hk with ⟨c, hd, hw⟩ | ⟨c, hd, hw⟩ | ⟨c, hd1, hd2, hd3, hw⟩
      · -- a byte below 128
        rw [hd]
        dsimp only
        by_cases q : byt s k = 34
        · rw [cnd_t (b := decide ((byt s k : Int) = 34)) (by simp [q])]
          by_cases e : (k : Int) + 1 < s.length
          · have hT : textGo s (m + 1) k (bytesOf l) = ⟨0, 0, [], k + 1, 4, k + 1, false⟩ := by simp [textGo, hki, hcb, q, e]
            rw [cnd_t (b := decide ((k : Int) + 1 < s.length)) (by simpa using e), hT]
            simp only [ext43, failN, failE, if_pos e]
            rfl
          · have hbl := bytesOf_length hu
            rw [cnd_f (b := decide ((k : Int) + 1 < s.length)) (by simpa using e)]
            by_cases g : 40 < l.length
            · have hT : textGo s (m + 1) k (bytesOf l) = ⟨0, 0, [], 0, 5, k + 1, false⟩ := by simp [textGo, hki, hcb, q, e, hbl, g]
              rw [cnd_t (b := decide ((l.length : Int) > 40)) (by simp only [decide_eq_true_eq]; omega), hT]
              rfl
            · have hT : textGo s (m + 1) k (bytesOf l) = ⟨2, 0, bytesOf l, k + 1, 0, k + 1, false⟩ := by simp [textGo, hki, hcb, q, e, hbl, g]
              rw [cnd_f (b := decide ((l.length : Int) > 40)) (by simp only [decide_eq_false_iff_not]; omega), chk_t hu, hT]
              rfl
        · have q' : ¬ ((byt s k : Int) = 34) := by omega
          rw [cnd_f (b := decide ((byt s k : Int) = 34)) (decide_eq_false q')]
          by_cases q2 : byt s k = 92
          · rw [cnd_t (b := decide ((byt s k : Int) = 92)) (by simp [q2]), chk_t (lim_ok (n := (k : Int) + 1) (m := (k : Int) + 1 + 3) (by omega) (by omega))]
            obtain ⟨r1, r2, r3, r4⟩ := escTo_range s ((k : Int) + 1) (by omega)
            by_cases g : escV s ((k : Int) + 1) < 0
            · have hT : textGo s (m + 1) k (bytesOf l) = ⟨0, 0, [], failN s (escTo s (k + 1)), failE s (escTo s (k + 1)), escTo s (k + 1), false⟩ := by simp [textGo, hki, hcb, q2, g]
              rw [cnd_t (b := !decide (0 ≤ escV s ((k : Int) + 1))) (by simp only [Bool.not_eq_true', decide_eq_false_iff_not]; omega), hT]
              rfl
            · have hT : textGo s (m + 1) k (bytesOf l) = textGo s m (escTo s (k + 1)) (bytesOf l ++ [UInt8.ofNat (escV s (k + 1)).toNat]) := by simp [textGo, hki, hcb, q2, g]
              rw [cnd_f (b := !decide (0 ≤ escV s ((k : Int) + 1))) (by simp only [Bool.not_eq_false', decide_eq_true_eq]; omega), hT]
              simp only [fillS_one, if_neg g]
              rw [chk_t (by simp only [limit, decide_eq_true_eq]; omega), ih _ _ (by omega) r2 (allU8_append hu rfl) (by simp; omega) (by omega), bytesOf_append]
              rfl
          · have q2' : ¬ ((byt s k : Int) = 92) := by omega
            rw [cnd_f (b := decide ((byt s k : Int) = 92)) (decide_eq_false q2')]
            by_cases q3 : byt s k < 32
            · have q3' : (byt s k : Int) < 32 := by omega
              have hT : textGo s (m + 1) k (bytesOf l) = ⟨0, 0, [], k, 4, k, false⟩ := by simp [textGo, hki, hcb, q', q2', q3']
              rw [cnd_t (b := decide ((byt s k : Int) < 32)) (by simpa using q3'), hT]
              simp only [ext43, failN, failE, if_pos hki]
              rfl
            · have q3' : ¬ (byt s k : Int) < 32 := by omega
              rw [cnd_f (b := decide ((byt s k : Int) < 32)) (by simpa using q3')]
              by_cases q4 : byt s k = 127
              · have hT : textGo s (m + 1) k (bytesOf l) = ⟨0, 0, [], k, 4, k, false⟩ := by simp [textGo, hki, hcb, q4]
                rw [cnd_t (b := decide ((byt s k : Int) = 127)) (by simp [q4]), hT]
                simp only [ext43, failN, failE, if_pos hki]
                rfl
              · have q4' : ¬ ((byt s k : Int) = 127) := by omega
                have hT : textGo s (m + 1) k (bytesOf l) = textGo s m ((k : Int) + ((1 : Nat) : Int)) (bytesOf l ++ (s.drop k).take 1) := by simp [textGo, hki, hcb, q', q2', q3', q4', hw]
                rw [cnd_f (b := decide ((byt s k : Int) = 127)) (decide_eq_false q4'), cnd_f (b := decide ((byt s k : Int) = 65533)) (by simp only [decide_eq_false_iff_not]; omega), hT]
                have w2 : IntKind.i64.wrap ((k : Int) + ((1 : Nat) : Int)) = ((k + 1 : Nat) : Int) := (wrap64 (by omega) (by omega)).trans (by omega)
                rw [w2]
                exact step 1 (by omega) (by omega) _ rfl _ (by omega)
      · -- none
        have q' : ¬ ((byt s k : Int) = 34) := by omega
        have q2' : ¬ ((byt s k : Int) = 92) := by omega
        have hT : textGo s (m + 1) k (bytesOf l) = ⟨0, 0, [], k, 4, k, false⟩ := by simp [textGo, hki, hcb, q', q2', hw]
        rw [hd, hT]
        dsimp only
        rw [cnd_f (b := decide (((65533 : Nat) : Int) = 34)) (by simp), cnd_f (b := decide (((65533 : Nat) : Int) = 92)) (by simp), cnd_f (b := decide (((65533 : Nat) : Int) < 32)) (by simp), cnd_f (b := decide (((65533 : Nat) : Int) = 127)) (by simp), cnd_t (b := decide (((65533 : Nat) : Int) = 65533)) (by simp), cnd_t (b := decide (((1 : Nat) : Int) < 2)) (by simp)]
        simp only [ext43, failN, failE, if_pos hki]
        rfl
      · -- a longer one
        have q' : ¬ ((byt s k : Int) = 34) := by omega
        have q2' : ¬ ((byt s k : Int) = 92) := by omega
        have q3' : ¬ (byt s k : Int) < 32 := by omega
        have q4' : ¬ ((byt s k : Int) = 127) := by omega
        have q5' : ¬ ((dec s k).2 = 0) := by omega
        have hT : textGo s (m + 1) k (bytesOf l) = textGo s m ((k : Int) + ((dec s k).2 : Int)) (bytesOf l ++ (s.drop k).take (dec s k).2) := by simp [textGo, hki, hcb, q', q2', q3', q4', hw, q5']
        have w2 : IntKind.i64.wrap ((k : Int) + (((dec s k).2 : Nat) : Int)) = ((k + (dec s k).2 : Nat) : Int) := (wrap64 (by omega) (by omega)).trans (by omega)
        rw [w2, hT]
        rw [cnd_f (b := decide (((dec s k).1 : Int) = 34)) (by simp only [decide_eq_false_iff_not]; omega), cnd_f (b := decide (((dec s k).1 : Int) = 92)) (by simp only [decide_eq_false_iff_not]; omega), cnd_f (b := decide (((dec s k).1 : Int) < 32)) (by simp only [decide_eq_false_iff_not]; omega), cnd_f (b := decide (((dec s k).1 : Int) = 127)) (by simp only [decide_eq_false_iff_not]; omega)]
        have fin := step (dec s k).2 (by omega) (by omega) _ rfl _ (Int.toNat_natCast (k + (dec s k).2))
        by_cases q : (dec s k).1 = 65533
        · rw [cnd_t (b := decide (((dec s k).1 : Int) = 65533)) (by simp only [decide_eq_true_eq]; omega), cnd_f (b := decide (((dec s k).2 : Int) < 2)) (by simp only [decide_eq_false_iff_not]; omega)]
          exact fin
        · rw [cnd_f (b := decide (((dec s k).1 : Int) = 65533)) (by simp only [decide_eq_false_iff_not]; omega)]
          exact fin
    · have hki : ¬ (k : Int) < s.length := by omega
      have hT : textGo s (m + 1) k (bytesOf l) = ⟨0, 0, [], s.length, 3, k, true⟩ := by simp [textGo, hki]
      rw [cnd_f (b := decide ((k : Int) < s.length)) (by simpa using hk), hT]
      rfl
end Go.PS
end

section
namespace Go.PS
open Go.Proofs

theorem lps43 (F : Nat) (hF : F = FU) : LpsOk (ctx F [(45, .eff (frameT S45)), (75, .pure S75), (76, .eff (frameT S76))]) L43 (loopsOf (body Tryd.f43)) := by
  refine lps_one (c := lp Tryd.f43 0) rfl (by kernel_rfl) fun R st K r h => ?_
  unfold T43 at h
  cases hs : shape 148 [0, 2, 3, 4, 5] st.slots with
  | false => rw [hs] at h; simp [Tr.run] at h
  | true =>
  rw [hs] at h
  simp only [cond_true] at h
  have he := shape_eq hs
  obtain ⟨sl0, H⟩ := st
  dsimp only at h he ⊢
  split at h
  · rename_i e3 e4 l s a k0 n0 t0 g0 g2 g3 g4 g5
    simp only [List.map_cons, List.map_nil, g0, g2, g3, g4, g5] at he
    subst he
    simp only [Tr.run] at h
    cases hc : (decide (0 ≤ a) && decide (a ≤ s.length) && decide (s.length ≤ big) && allU8 l && decide (l.length ≤ a)) with
    | false => rw [hc] at h; simp at h
    | true =>
    rw [hc] at h
    simp only [Bool.and_eq_true, decide_eq_true_eq] at hc
    obtain ⟨⟨⟨⟨h0, h1⟩, h2⟩, h3⟩, h4⟩ := hc
    unfold big at h2
    refine (loop43 F s e3 e4 k0 n0 t0 K h2 F a l h0 h1 h3 h4 (by rw [hF]; unfold FU; omega)).trans ?_
    rw [← h, hF]
    rfl
  · simp [Tr.run] at h

theorem textGo_off (s : List UInt8) : ∀ (m : Nat) (a : Int) (out : List UInt8), a ≤ s.length → 0 ≤ a → (s.length - a).toNat < m → (textGo s m a out).off = true → ¬ (textGo s m a out).fin < s.length ∧ (textGo s m a out).kind = 0 ∧ (textGo s m a out).n = 0 ∧ (textGo s m a out).txt = [] ∧ (textGo s m a out).pos = s.length ∧ (textGo s m a out).err = 3 := by
  intro m
  induction m with
  | zero => intro a out _ _ h; omega
  | succ m ih =>
    intro a out h1 h0 hm ho
    unfold textGo at ho ⊢
    by_cases hk : a < s.length
    · simp only [if_pos hk] at ho ⊢
      by_cases q1 : chr s a = 34
      · simp only [if_pos q1] at ho
        split at ho
        · simp at ho
        · split at ho <;> simp at ho
      · simp only [if_neg q1] at ho ⊢
        by_cases q2 : chr s a = 92
        · simp only [if_pos q2] at ho ⊢
          obtain ⟨r1, r2, r3, r4⟩ := escTo_range s (a + 1) (by omega)
          by_cases q3 : escV s (a + 1) < 0
          · simp only [if_pos q3] at ho; simp at ho
          · simp only [if_neg q3] at ho ⊢
            exact ih _ _ r2 (by omega) (by omega) ho
        · simp only [if_neg q2] at ho ⊢
          by_cases q3 : width s a = 0 ∨ chr s a < 32 ∨ chr s a = 127
          · simp only [if_pos q3] at ho; simp at ho
          · simp only [if_neg q3] at ho ⊢
            obtain ⟨k, rfl⟩ := Int.eq_ofNat_of_zero_le h0
            have hw : 1 ≤ width s k ∧ (k : Int) + width s k ≤ s.length := by
              rcases dec_cases s k (by omega) with ⟨c, hd, hw⟩ | ⟨c, hd, hw⟩ | ⟨c, hd1, hd2, hd3, hw⟩
              · omega
              · omega
              · omega
            exact ih _ _ (by omega) (by omega) (by omega) ho
    · simp only [if_neg hk]
      simpa using hk

def textR (s : List UInt8) : VR := textGo s FU 1 []

def S43 : List PV → List PObj → Tr (Out × List PObj)
  | [.ptr 0 0], [.cells [.d (.str s), .d (.int .i64 _)]] =>
    .chk (decide (1 ≤ s.length) && decide (s.length ≤ big)) (.ok (.ret (textR s).pv, [.cells [.d (.str s), .d (.int .i64 (textR s).fin)]]))
  | _, _ => .no

theorem ok43 (W0 : World) (hW : Laid W0) : EKOk Tryd.prog W0 43 (.eff (frameT S43)) := by
  refine eff_of (tyOk FU [(45, .eff (frameT S45)), (75, .pure S75), (76, .eff (frameT S76))]) (look_ok (all_cons (ok45 W0) (all_cons (ok75 hW) (all_cons (ok76 W0) all_nil)))) mixed fn43 (lps43 FU rfl) fun args H r h => ?_
  unfold S43 at h
  split at h
  · rename_i s n
    refine (run43 FU s n).trans ?_
    rw [← h]
    simp only [Tr.val_chk, chk_some, Bool.and_eq_true, decide_eq_true_eq] at h
    obtain ⟨⟨h0, h1⟩, _⟩ := h
    simp only [Tr.val_ok, Tr.val_cnd, Tr.val_chk]
    rw [chk_t (b := decide (1 ≤ s.length) && decide (s.length ≤ big)) (by simp [h0, h1])]
    rw [chk_t (by simp only [Bool.and_eq_true, decide_eq_true_eq]; exact ⟨⟨⟨⟨by omega, by omega⟩, h1⟩, rfl⟩, by omega⟩)]
    have hb : bytesOf [] = [] := rfl
    rw [hb]
    have ho := textGo_off s FU 1 [] (by omega) (by omega) (by unfold big at h1; unfold FU; omega)
    unfold textR
    cases hof : (textGo s FU 1 []).off with
    | false => rfl
    | true =>
      obtain ⟨o1, o2, o3, o4, o5, o6⟩ := ho hof
      simp only [cnd_tt, VR.pv, o2, o3, o4, o5, o6, failN, failE, if_neg o1]
  · simp [Tr.val_no] at h
end Go.PS
end
