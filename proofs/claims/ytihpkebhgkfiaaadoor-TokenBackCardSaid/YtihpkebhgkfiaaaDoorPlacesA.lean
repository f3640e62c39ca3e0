/- A part of the proof of the claim (the pure semantics PS and the contracts of the functions over it). -/
import Derived.Test.YtihpkebhgkfiaaaDoorVaC
import Derived.Test.YtihpkebhgkfiaaaDoorVaB
import Derived.Test.YtihpkebhgkfiaaaDoorPsC
set_option linter.all false
section
namespace Go.PS
open Go.Proofs
/-- is a text a mark? -/
def markB (s : List UInt8) : Bool :=
  decide (s = [124]) || decide (s = [44]) || decide (s = [40]) || decide (s = [41]) || decide (s = [61]) || decide (s = [33, 61]) || decide (s = [60]) || decide (s = [60, 61]) || decide (s = [62]) || decide (s = [62, 61])
def S93 : List PV → Tr PV
  | [.d (.str s)] => .ok (.d (.bool (markB s)))
  | _ => .no
def S95 : List PV → Tr PV
  | [.d (.int .u8 b)] => .ok (.tup [.d (.bool (decide (97 ≤ b) && decide (b ≤ 122))), .d (.bool (isDigit b))])
  | _ => .no
end Go.PS
end

section
namespace Go.PS
open Go.Proofs
/-- bytes, each in its range -/
def allB : List DV → Bool
  | [] => true
  | .int .u8 n :: l => decide (0 ≤ n) && decide (n < 256) && allB l
  | _ => false
theorem allB_cons {v : DV} {l : List DV} (h : allB (v :: l) = true) : ∃ n : Int, v = .int .u8 n ∧ 0 ≤ n ∧ n < 256 ∧ allB l = true := by
  cases v with
  | int k n => cases k <;> first | (simp [allB] at h; exact ⟨n, rfl, h.1.1, h.1.2, h.2⟩) | (simp [allB] at h; done)
  | _ => simp [allB] at h
theorem allB_U8 : ∀ {l : List DV}, allB l = true → allU8 l = true
  | [], _ => rfl
  | v :: l, h => by
    obtain ⟨n, rfl, _, _, h⟩ := allB_cons h
    show allU8 l = true
    exact allB_U8 h
theorem allB_drop : ∀ {l : List DV} (k : Nat), allB l = true → allB (l.drop k) = true
  | _, 0, h => h
  | [], _ + 1, _ => rfl
  | v :: l, k + 1, h => by obtain ⟨n, rfl, _, _, h⟩ := allB_cons h; exact allB_drop k h
theorem allB_take : ∀ {l : List DV} (k : Nat), allB l = true → allB (l.take k) = true
  | _, 0, _ => rfl
  | [], _ + 1, _ => rfl
  | v :: l, k + 1, h => by
    obtain ⟨n, rfl, h0, h1, h⟩ := allB_cons h
    simp only [List.take_succ_cons, allB, allB_take k h, decide_eq_true h0, decide_eq_true h1, Bool.and_self]
theorem bytesOf_drop : ∀ {l : List DV} (k : Nat), allB l = true → bytesOf (l.drop k) = (bytesOf l).drop k
  | _, 0, _ => rfl
  | [], _ + 1, _ => rfl
  | v :: l, k + 1, h => by obtain ⟨n, rfl, _, _, h⟩ := allB_cons h; exact bytesOf_drop k h
theorem bytesOf_take : ∀ {l : List DV} (k : Nat), allB l = true → bytesOf (l.take k) = (bytesOf l).take k
  | _, 0, _ => rfl
  | [], _ + 1, _ => rfl
  | v :: l, k + 1, h => by
    obtain ⟨n, rfl, _, _, h⟩ := allB_cons h
    simp only [List.take_succ_cons, bytesOf, bytesOf_take k h]
theorem atI_byte : ∀ {l : List DV} (k : Nat), allB l = true → k < l.length → gt .nili l k = .int .u8 (((bytesOf l).getD k 0).toNat : Int)
  | [], k, _, h => absurd h (by simp)
  | v :: l, 0, h, _ => by
    obtain ⟨n, rfl, h0, h1, _⟩ := allB_cons h
    show DV.int .u8 n = .int .u8 ((UInt8.ofNat n.toNat).toNat : Int)
    have : ((UInt8.ofNat n.toNat).toNat : Int) = n := by
      rw [UInt8.toNat_ofNat']; omega
    rw [this]
  | v :: l, k + 1, h, hk => by
    obtain ⟨n, rfl, _, _, h⟩ := allB_cons h
    exact atI_byte k h (by simpa using hk)
theorem atI_chr {l : List DV} (h : allB l = true) {i : Int} (h0 : 0 ≤ i) (hi : i < l.length) : atI l i.toNat 0 = chr (bytesOf l) i := by
  unfold atI
  rw [atI_byte i.toNat h (by omega)]
  rfl
theorem fits_byte {l : List DV} (h : allB l = true) {i : Int} (h0 : 0 ≤ i) (hi : i < l.length) : fits [.int .u8 0] (gt .nili l i.toNat).cells = true := by
  rw [atI_byte i.toNat h (by omega)]
  rfl
theorem allB_bytesDV (s : List UInt8) : allB (bytesDV s) = true := by
  induction s with
  | nil => rfl
  | cons b s ih =>
    have := b.toNat_lt
    show (decide (0 ≤ ((b.toNat : Nat) : Int)) && decide (((b.toNat : Nat) : Int) < 256) && allB (bytesDV s)) = true
    rw [ih]; simp; omega
end Go.PS
end

section
namespace Go.PS
open Go.Proofs
def smallB (b : Int) : Bool := decide (97 ≤ b) && decide (b ≤ 122)
/-- the place behind all digits (or letters, too) from a place on -/
def runTo (s : List UInt8) (c : Bool) : Nat → Int → Int
  | 0, i => i
  | m + 1, i => if i < s.length ∧ (isDigit (chr s i) = true ∨ (c = true ∧ smallB (chr s i) = true)) then runTo s c m (i + 1) else i
/-- the place behind the text that begins ahead of a place -/
def closeTo (s : List UInt8) : Nat → Int → Int
  | 0, _ => s.length
  | m + 1, i => if i < s.length then (if chr s i = 34 then i + 1 else if chr s i = 92 then closeTo s m (i + 2) else closeTo s m (i + 1)) else s.length
/-- how many bytes the piece in front has; 0: none -/
def pieceN (s : List UInt8) : Int :=
  if smallB (chr s 0) = true then runTo s true FU 0
  else if chr s 0 = 34 then closeTo s FU 1
  else if chr s 0 = 45 ∨ chr s 0 = 35 ∨ isDigit (chr s 0) = true then runTo s false FU 1
  else if 2 ≤ s.length ∧ markB (s.take 2) = true then 2
  else if markB (s.take 1) = true then 1 else 0

def S65 : List PV → List PObj → Tr (Out × List PObj)
  | [.ptr 0 0, .d (.int .i64 f), .d (.bool c)], [.cells [.d (.slc 1 vs), .d (.int .i64 a)]] =>
    .chk (decide (0 ≤ f) && decide (f ≤ vs.length) && decide (vs.length ≤ big) && allB vs) (.ok (.ret (.d (.int .i64 (runTo (bytesOf vs) c FU f))), [.cells [.d (.slc 1 vs), .d (.int .i64 a)]]))
  | _, _ => .no
def S66 : List PV → List PObj → Tr (Out × List PObj)
  | [.ptr 0 0], [.cells [.d (.slc 1 vs), .d (.int .i64 a)]] =>
    .chk (decide (vs.length ≤ big) && allB vs) (.ok (.ret (.d (.int .i64 (closeTo (bytesOf vs) FU 1))), [.cells [.d (.slc 1 vs), .d (.int .i64 a)]]))
  | _, _ => .no
def S38 : List PV → List PObj → Tr (Out × List PObj)
  | [.ptr 0 0, .d (.int .i64 n)], [.cells [.d (.slc 1 vs), .d (.int .i64 a)]] =>
    .chk (decide (0 ≤ n) && decide (n ≤ vs.length) && decide (vs.length ≤ big) && allB vs && decide (0 ≤ a) && decide (a ≤ big)) (.ok (.ret (.d (.str ((bytesOf vs).take n.toNat))), [.cells [.d (.slc 1 (vs.drop n.toNat)), .d (.int .i64 (a + n))]]))
  | _, _ => .no
end Go.PS
end

section
namespace Go.PS
open Go.Proofs

/-- does the text that begins ahead of a place end -/
def closeB (s : List UInt8) : Nat → Int → Bool
  | 0, _ => false
  | m + 1, i => if i < s.length then (if chr s i = 34 then true else if chr s i = 92 then closeB s m (i + 2) else closeB s m (i + 1)) else false

theorem closeTo_end (s : List UInt8) : ∀ (m : Nat) (i : Int), closeB s m i = false → closeTo s m i = s.length := by
  intro m
  induction m with
  | zero => intro i _; rfl
  | succ m ih =>
    intro i h
    simp only [closeB] at h
    simp only [closeTo]
    split
    · rename_i h1
      rw [if_pos h1] at h
      split
      · rename_i h2
        rw [if_pos h2] at h
        exact absurd h (by simp)
      · rename_i h2
        rw [if_neg h2] at h
        split
        · rename_i h3
          rw [if_pos h3] at h
          exact ih _ h
        · rename_i h3
          rw [if_neg h3] at h
          exact ih _ h
    · rfl

def T65 (st : St) : Tr (Ex × St) :=
  bif shape 42 [0, 1, 2, 7] st.slots then
    match gt .undef st.slots 0, gt .undef st.slots 1, gt .undef st.slots 2, gt .undef st.slots 7, st.heap with
    | .ptr 0 0, .d (.int .i64 f), .d (.bool c), .d (.int .i64 n), [.cells [.d (.slc 1 vs), .d (.int .i64 a)]] =>
      .chk (decide (0 ≤ n) && decide (n ≤ vs.length) && decide (vs.length ≤ big) && allB vs) (.cnd (decide (runTo (bytesOf vs) c FU n < vs.length))
        (.ok (.ret, ⟨slots 42 [(0, .ptr 0 0), (1, .d (.int .i64 f)), (2, .d (.bool c)), (6, .d (.int .i64 (runTo (bytesOf vs) c FU n))), (7, .d (.int .i64 (runTo (bytesOf vs) c FU n)))], [.cells [.d (.slc 1 vs), .d (.int .i64 a)]]⟩))
        (.ok (.exit 0, ⟨slots 42 [(0, .ptr 0 0), (1, .d (.int .i64 f)), (2, .d (.bool c)), (7, .d (.int .i64 (runTo (bytesOf vs) c FU n)))], [.cells [.d (.slc 1 vs), .d (.int .i64 a)]]⟩)))
    | _, _, _, _, _ => .no
  else .no
def L65 : Lps := fun i => bif Nat.beq i 2 then some (allBut 42 [0, 1, 2, 7], allBut 42 [0, 1, 2, 6, 7], T65) else none
def T66 (st : St) : Tr (Ex × St) :=
  bif shape 33 [0, 3] st.slots then
    match gt .undef st.slots 0, gt .undef st.slots 3, st.heap with
    | .ptr 0 0, .d (.int .i64 n), [.cells [.d (.slc 1 vs), .d (.int .i64 a)]] =>
      .chk (decide (0 ≤ n) && decide (n ≤ vs.length + 2) && decide (vs.length ≤ big) && allB vs) (.cnd (closeB (bytesOf vs) FU n)
        (.ok (.ret, ⟨slots 33 [(0, .ptr 0 0), (2, .d (.int .i64 (closeTo (bytesOf vs) FU n)))], [.cells [.d (.slc 1 vs), .d (.int .i64 a)]]⟩))
        (.ok (.exit 0, ⟨slots 33 [(0, .ptr 0 0)], [.cells [.d (.slc 1 vs), .d (.int .i64 a)]]⟩)))
    | _, _, _ => .no
  else .no
def L66 : Lps := fun i => bif Nat.beq i 2 then some (allBut 33 [0, 3], allBut 33 [0, 2], T66) else none
def marksN (s : List UInt8) : Int := if 2 ≤ s.length ∧ markB (s.take 2) = true then 2 else if markB (s.take 1) = true then 1 else 0
structure TR where
  kind : Int
  n : Int
  txt : List UInt8
  pos : Int
  err : Int
def TR.pv (r : TR) : PV := .tup [.d (.agg [.int .i64 r.kind, .str r.txt, .int .i64 r.n, .int .i64 0]), .d (.int .i64 r.pos), .d (.int .i64 r.err)]
def hashN (s : List UInt8) : Int := if chr s 0 = 35 then 1 else 0
/-- the token of a number, a text, a commit -/
def numT (s : List UInt8) : TR :=
  if (parseR (s.drop (hashN s).toNat)).err = 5 then ⟨0, 0, [], 0, 5⟩
  else if (parseR (s.drop (hashN s).toNat)).err ≠ 0 then ⟨0, 0, [], (parseR (s.drop (hashN s).toNat)).pos + hashN s, 11⟩
  else if (parseR (s.drop (hashN s).toNat)).kind = 2 then ⟨3, 0, (parseR (s.drop (hashN s).toNat)).txt, 0, 0⟩
  else if hashN s = 0 then ⟨2, (parseR (s.drop (hashN s).toNat)).n, [], 0, 0⟩
  else if (parseR (s.drop (hashN s).toNat)).n = 0 then ⟨0, 0, [], 1, 11⟩
  else ⟨4, (parseR (s.drop (hashN s).toNat)).n, [], 0, 0⟩
/-- the token of a piece -/
def tokR (s : List UInt8) : TR :=
  if smallB (chr s 0) = true then (if 12 < s.length then ⟨0, 0, [], 0, 5⟩ else ⟨1, 0, s, 0, 0⟩)
  else if markB s = true then ⟨5, 0, s, 0, 0⟩ else numT s
def S69 : List PV → Tr PV
  | [.d (.int .u8 b)] => .ok (.d (.bool (smallB b)))
  | _ => .no
def S71 : List PV → Tr PV
  | [.d (.int .u8 b)] => .ok (.d (.bool (isDigit b)))
  | _ => .no
def S107 : List PV → Tr PV
  | [.d (.str s), .d (.str p)] => .cnd (decide (p.length ≤ s.length ∧ s.take p.length = p)) (.ok (.tup [.d (.str (s.drop p.length)), .d (.bool true)])) (.ok (.tup [.d (.str s), .d (.bool false)]))
  | _ => .no
def S68 : List PV → Tr PV
  | [.d (.str s)] => .chk (decide (1 ≤ s.length) && decide (s.length ≤ big)) (.ok (numT s).pv)
  | _ => .no
def S41 : List PV → Tr PV
  | [.d (.str s)] => .chk (decide (1 ≤ s.length) && decide (s.length ≤ big)) (.ok (tokR s).pv)
  | _ => .no
def S39 : List PV → List PObj → Tr (Out × List PObj)
  | [.ptr 0 0], [.cells [.d (.slc 1 vs), .d (.int .i64 a)]] =>
    .chk (decide (1 ≤ vs.length) && decide (vs.length ≤ big) && allB vs && decide (0 ≤ a) && decide (a ≤ big)) (.cnd (decide (pieceN (bytesOf vs) = 0))
      (.ok (.ret (.tup [.d (.agg [.int .i64 0, .str [], .int .i64 0, .int .i64 0]), .d (.int .i64 0), .d (.int .i64 11)]), [.cells [.d (.slc 1 vs), .d (.int .i64 a)]]))
      (.ok (.ret (tokR ((bytesOf vs).take (pieceN (bytesOf vs)).toNat)).pv, [.cells [.d (.slc 1 (vs.drop (pieceN (bytesOf vs)).toNat)), .d (.int .i64 (a + pieceN (bytesOf vs)))]])))
  | _, _ => .no
def S67 : List PV → List PObj → Tr (Out × List PObj)
  | [.ptr 0 0], [.cells [.d (.slc 1 vs), .d (.int .i64 a)]] =>
    .chk (decide (vs.length ≤ big) && allB vs) (.ok (.ret (.d (.int .i64 (marksN (bytesOf vs)))), [.cells [.d (.slc 1 vs), .d (.int .i64 a)]]))
  | _, _ => .no
end Go.PS
end

section
namespace Go.PS
open Go.Proofs
set_option maxRecDepth 100000
/-! fasti token.is -/
theorem fn95 : FnOk Tryd.prog 95 16 [.tmp 2, .tmp 3] (body Tryd.f95) := ⟨Tryd.f95, Tryd.func95, bodySome _ (by kernel_rfl), by kernel_rfl, by kernel_rfl, by kernel_rfl, by kernel_rfl⟩
theorem run95 (F : Nat) (b : Int) : runP (ctx F []) noL 16 [.tmp 2, .tmp 3] (body Tryd.f95) [.d (.int .u8 b)] =
    Tr.val
      (.cnd (decide (b ≥ 97))
        (.cnd (decide (b ≥ 48))
          (.ok (PV.tup [PV.d (DV.bool (decide (b ≤ 122))), PV.d (DV.bool (decide (b ≤ 57)))]))
          (.ok (PV.tup [PV.d (DV.bool (decide (b ≤ 122))), PV.d (DV.bool false)])))
        (.cnd (decide (b ≥ 48))
          (.ok (PV.tup [PV.d (DV.bool false), PV.d (DV.bool (decide (b ≤ 57)))]))
          (.ok (PV.tup [PV.d (DV.bool false), PV.d (DV.bool false)])))) := by kernel_rfl
/-! fasti fastiref16.small -/
theorem fn69 : FnOk Tryd.prog 69 9 [.tmp 2] (body Tryd.f69) := ⟨Tryd.f69, Tryd.func69, bodySome _ (by kernel_rfl), by kernel_rfl, by kernel_rfl, by kernel_rfl, by kernel_rfl⟩
theorem run69 (F : Nat) (b : Int) : runP (ctx F []) noL 9 [.tmp 2] (body Tryd.f69) [.d (.int .u8 b)] =
    Tr.val
      (.cnd (decide (b ≥ 97))
        (.ok (PV.d (DV.bool (decide (b ≤ 122)))))
        (.ok (PV.d (DV.bool false)))) := by kernel_rfl
/-! fasti fastiref16.digit -/
theorem fn71 : FnOk Tryd.prog 71 9 [.tmp 2] (body Tryd.f71) := ⟨Tryd.f71, Tryd.func71, bodySome _ (by kernel_rfl), by kernel_rfl, by kernel_rfl, by kernel_rfl, by kernel_rfl⟩
theorem run71 (F : Nat) (b : Int) : runP (ctx F []) noL 9 [.tmp 2] (body Tryd.f71) [.d (.int .u8 b)] =
    Tr.val
      (.cnd (decide (b ≥ 48))
        (.ok (PV.d (DV.bool (decide (b ≤ 57)))))
        (.ok (PV.d (DV.bool false)))) := by kernel_rfl
/-! fasti token.mark -/
theorem fn93 : FnOk Tryd.prog 93 15 [.tmp 2] (body Tryd.f93) := ⟨Tryd.f93, Tryd.func93, bodySome _ (by kernel_rfl), by kernel_rfl, by kernel_rfl, by kernel_rfl, by kernel_rfl⟩
theorem run93 (F : Nat) (s : List UInt8) : runP (ctx F []) noL 15 [.tmp 2] (body Tryd.f93) [.d (.str s)] =
    Tr.val
      (.cnd (decide (s = ([124] : List UInt8)))
        (.ok (PV.d (DV.bool true)))
        (.cnd (decide (s = ([44] : List UInt8)))
          (.ok (PV.d (DV.bool true)))
          (.cnd (decide (s = ([40] : List UInt8)))
            (.ok (PV.d (DV.bool true)))
            (.cnd (decide (s = ([41] : List UInt8)))
              (.ok (PV.d (DV.bool true)))
              (.cnd (decide (s = ([61] : List UInt8)))
                (.ok (PV.d (DV.bool true)))
                (.cnd (decide (s = ([33, 61] : List UInt8)))
                  (.ok (PV.d (DV.bool true)))
                  (.cnd (decide (s = ([60] : List UInt8)))
                    (.ok (PV.d (DV.bool true)))
                    (.cnd (decide (s = ([60, 61] : List UInt8)))
                      (.ok (PV.d (DV.bool true)))
                      (.cnd (decide (s = ([62] : List UInt8)))
                        (.ok (PV.d (DV.bool true)))
                        (.cnd (decide (s = ([62, 61] : List UInt8)))
                          (.ok (PV.d (DV.bool true)))
                          (.ok (PV.d (DV.bool false))))))))))))) := by kernel_rfl
/-! fasti fastiref16.Mark -/
theorem fn73 : FnOk Tryd.prog 73 15 [.tmp 2] (body Tryd.f73) := ⟨Tryd.f73, Tryd.func73, bodySome _ (by kernel_rfl), by kernel_rfl, by kernel_rfl, by kernel_rfl, by kernel_rfl⟩
theorem run73 (F : Nat) (s : List UInt8) : runP (ctx F []) noL 15 [.tmp 2] (body Tryd.f73) [.d (.str s)] =
    Tr.val
      (.cnd (decide (s = ([124] : List UInt8)))
        (.ok (PV.d (DV.bool true)))
        (.cnd (decide (s = ([44] : List UInt8)))
          (.ok (PV.d (DV.bool true)))
          (.cnd (decide (s = ([40] : List UInt8)))
            (.ok (PV.d (DV.bool true)))
            (.cnd (decide (s = ([41] : List UInt8)))
              (.ok (PV.d (DV.bool true)))
              (.cnd (decide (s = ([61] : List UInt8)))
                (.ok (PV.d (DV.bool true)))
                (.cnd (decide (s = ([33, 61] : List UInt8)))
                  (.ok (PV.d (DV.bool true)))
                  (.cnd (decide (s = ([60] : List UInt8)))
                    (.ok (PV.d (DV.bool true)))
                    (.cnd (decide (s = ([60, 61] : List UInt8)))
                      (.ok (PV.d (DV.bool true)))
                      (.cnd (decide (s = ([62] : List UInt8)))
                        (.ok (PV.d (DV.bool true)))
                        (.cnd (decide (s = ([62, 61] : List UInt8)))
                          (.ok (PV.d (DV.bool true)))
                          (.ok (PV.d (DV.bool false))))))))))))) := by kernel_rfl
/-! internal stringslite.CutPrefix -/
theorem fn107 : FnOk Tryd.prog 107 15 [.tmp 4, .tmp 5] (body Tryd.f107) := ⟨Tryd.f107, Tryd.func107, bodySome _ (by kernel_rfl), by kernel_rfl, by kernel_rfl, by kernel_rfl, by kernel_rfl⟩
theorem run107 (F : Nat) (s p : List UInt8) : runP (ctx F [(74, .pure S42)]) noL 15 [.tmp 4, .tmp 5] (body Tryd.f107) [.d (.str s), .d (.str p)] =
    Tr.val
      (.cnd (!decide (p.length ≤ s.length ∧ List.take p.length s = p))
        (.ok (PV.tup [PV.d (DV.str s), PV.d (DV.bool false)]))
        (.chk (decide ((↑p.length : Int) ≤ (↑s.length : Int)))
        (.chk (decide ((↑s.length : Int) ≤ (↑s.length : Int)))
        (.ok (PV.tup [PV.d (DV.str (List.drop (↑p.length : Int).toNat (List.take (↑s.length : Int).toNat s))), PV.d (DV.bool true)]))))) := by kernel_rfl
end Go.PS
end

section
namespace Go.PS
open Go.Proofs
set_option maxRecDepth 100000
theorem round65_0 (F : Nat) {R : Type} (vs : List DV) (a f n : Int) (c : Bool) (K : Ex → St → Option R) (G : St → Option R) : roundK (pcodeK (ctx F [(95, .pure S95)]) noL (lp Tryd.f65 0)) 1 (allBut 42 [0, 1, 2, 7] ++ temps (lp Tryd.f65 0)) (allBut 42 [0, 1, 2, 6, 7]) ⟨slots 42 [(0, .ptr 0 0), (1, .d (.int .i64 f)), (2, .d (.bool c)), (7, .d (.int .i64 n))], [.cells [.d (.slc 1 vs), .d (.int .i64 a)]]⟩ K G =
    Tr.run
      (.cnd (decide (n < (↑vs.length : Int)))
        (.chk (decide (0 ≤ n))
        (.chk (decide (n.toNat < vs.length))
        (.chk (fits [.int .u8 0] (gt DV.nili vs n.toNat).cells)
        (.cnd (!isDigit (atI vs n.toNat 0))
          (.cnd (c)
            (.cnd (!(decide (97 ≤ atI vs n.toNat 0) && decide (atI vs n.toNat 0 ≤ 122)))
              (.ok (.inl (Ex.ret, ⟨slots 42 [(0, PV.ptr 0 0), (1, PV.d (DV.int IntKind.i64 f)), (2, PV.d (DV.bool c)), (6, PV.d (DV.int IntKind.i64 n)), (7, PV.d (DV.int IntKind.i64 n))], [PObj.cells [PV.d (DV.slc 1 vs), PV.d (DV.int IntKind.i64 a)]]⟩)))
              (.ok (.inr ⟨slots 42 [(0, PV.ptr 0 0), (1, PV.d (DV.int IntKind.i64 f)), (2, PV.d (DV.bool c)), (7, PV.d (DV.int IntKind.i64 (IntKind.i64.wrap (n + 1))))], [PObj.cells [PV.d (DV.slc 1 vs), PV.d (DV.int IntKind.i64 a)]]⟩)))
            (.ok (.inl (Ex.ret, ⟨slots 42 [(0, PV.ptr 0 0), (1, PV.d (DV.int IntKind.i64 f)), (2, PV.d (DV.bool c)), (6, PV.d (DV.int IntKind.i64 n)), (7, PV.d (DV.int IntKind.i64 n))], [PObj.cells [PV.d (DV.slc 1 vs), PV.d (DV.int IntKind.i64 a)]]⟩))))
          (.ok (.inr ⟨slots 42 [(0, PV.ptr 0 0), (1, PV.d (DV.int IntKind.i64 f)), (2, PV.d (DV.bool c)), (7, PV.d (DV.int IntKind.i64 (IntKind.i64.wrap (n + 1))))], [PObj.cells [PV.d (DV.slc 1 vs), PV.d (DV.int IntKind.i64 a)]]⟩))))))
        (.ok (.inl (Ex.exit 0, ⟨slots 42 [(0, PV.ptr 0 0), (1, PV.d (DV.int IntKind.i64 f)), (2, PV.d (DV.bool c)), (7, PV.d (DV.int IntKind.i64 n))], [PObj.cells [PV.d (DV.slc 1 vs), PV.d (DV.int IntKind.i64 a)]]⟩)))) (rnd K G) := by kernel_rfl
theorem round66_0 (F : Nat) {R : Type} (vs : List DV) (a n : Int) (K : Ex → St → Option R) (G : St → Option R) : roundK (pcodeK (ctx F []) noL (lp Tryd.f66 0)) 1 (allBut 33 [0, 3] ++ temps (lp Tryd.f66 0)) (allBut 33 [0, 2]) ⟨slots 33 [(0, .ptr 0 0), (3, .d (.int .i64 n))], [.cells [.d (.slc 1 vs), .d (.int .i64 a)]]⟩ K G =
    Tr.run
      (.cnd (decide (n < (↑vs.length : Int)))
        (.chk (decide (0 ≤ n))
        (.chk (decide (n.toNat < vs.length))
        (.chk (fits [.int .u8 0] (gt DV.nili vs n.toNat).cells)
        (.cnd (decide (atI vs n.toNat 0 = 34))
          (.ok (.inl (Ex.ret, ⟨slots 33 [(0, PV.ptr 0 0), (2, PV.d (DV.int IntKind.i64 (IntKind.i64.wrap (n + 1))))], [PObj.cells [PV.d (DV.slc 1 vs), PV.d (DV.int IntKind.i64 a)]]⟩)))
          (.cnd (decide (atI vs n.toNat 0 = 92))
            (.ok (.inr ⟨slots 33 [(0, PV.ptr 0 0), (3, PV.d (DV.int IntKind.i64 (IntKind.i64.wrap (IntKind.i64.wrap (n + 1) + 1))))], [PObj.cells [PV.d (DV.slc 1 vs), PV.d (DV.int IntKind.i64 a)]]⟩))
            (.ok (.inr ⟨slots 33 [(0, PV.ptr 0 0), (3, PV.d (DV.int IntKind.i64 (IntKind.i64.wrap (n + 1))))], [PObj.cells [PV.d (DV.slc 1 vs), PV.d (DV.int IntKind.i64 a)]]⟩)))))))
        (.ok (.inl (Ex.exit 0, ⟨slots 33 [(0, PV.ptr 0 0)], [PObj.cells [PV.d (DV.slc 1 vs), PV.d (DV.int IntKind.i64 a)]]⟩)))) (rnd K G) := by kernel_rfl
/-! (*fasti token.reader).cut -/
theorem fn38 : FnOk Tryd.prog 38 32 [.tmp 4] (body Tryd.f38) := ⟨Tryd.f38, Tryd.func38, bodySome _ (by kernel_rfl), by kernel_rfl, by kernel_rfl, by kernel_rfl, by kernel_rfl⟩
theorem run38 (F : Nat) (vs : List DV) (a n : Int) : runE (ctx F []) noL 32 [.tmp 4] (body Tryd.f38) [.ptr 0 0, .d (.int .i64 n)] [.cells [.d (.slc 1 vs), .d (.int .i64 a)]] =
    Tr.val
      (.chk (decide (n = n))
      (.chk (decide ((↑0 : Int) ≤ n))
      (.chk (decide (n ≤ (↑vs.length : Int)))
      (.chk (allU8 (List.drop (↑0 : Int).toNat (List.take n.toNat vs)))
      (.chk (decide (0 ≤ n))
      (.chk (decide (n ≤ (↑vs.length : Int)))
      (.chk (decide ((↑vs.length : Int) ≤ (↑vs.length : Int)))
      (.ok ((Out.ret (PV.d (DV.str (bytesOf (List.drop (↑0 : Int).toNat (List.take n.toNat vs))))),
        [PObj.cells
            [PV.d (DV.slc 1 (List.drop n.toNat (List.take (↑vs.length : Int).toNat vs))),
              PV.d (DV.int IntKind.i64 (IntKind.i64.wrap (a + n)))]])))))))))) := by kernel_rfl
/-! (*fasti token.reader).run -/
theorem fn65 : FnOk Tryd.prog 65 42 [.tmp 6] (body Tryd.f65) := ⟨Tryd.f65, Tryd.func65, bodySome _ (by kernel_rfl), by kernel_rfl, by kernel_rfl, by kernel_rfl, by kernel_rfl⟩
theorem run65 (F : Nat) (vs : List DV) (a f : Int) (c : Bool) : runE (ctx F [(95, .pure S95)]) L65 42 [.tmp 6] (body Tryd.f65) [.ptr 0 0, .d (.int .i64 f), .d (.bool c)] [.cells [.d (.slc 1 vs), .d (.int .i64 a)]] =
    Tr.val
      (.chk (decide (0 ≤ f) && decide (f ≤ (↑vs.length : Int)) && decide (vs.length ≤ big) && allB vs)
      (.cnd (decide (runTo (bytesOf vs) c FU f < (↑vs.length : Int)))
        (.ok ((Out.ret (PV.d (DV.int IntKind.i64 (runTo (bytesOf vs) c FU f))),
        [PObj.cells [PV.d (DV.slc 1 vs), PV.d (DV.int IntKind.i64 a)]])))
        (.ok ((Out.ret (PV.d (DV.int IntKind.i64 (runTo (bytesOf vs) c FU f))),
        [PObj.cells [PV.d (DV.slc 1 vs), PV.d (DV.int IntKind.i64 a)]]))))) := by kernel_rfl
/-! (*fasti token.reader).quoted -/
theorem fn66 : FnOk Tryd.prog 66 33 [.tmp 2] (body Tryd.f66) := ⟨Tryd.f66, Tryd.func66, bodySome _ (by kernel_rfl), by kernel_rfl, by kernel_rfl, by kernel_rfl, by kernel_rfl⟩
theorem run66 (F : Nat) (vs : List DV) (a : Int) : runE (ctx F []) L66 33 [.tmp 2] (body Tryd.f66) [.ptr 0 0] [.cells [.d (.slc 1 vs), .d (.int .i64 a)]] =
    Tr.val
      (.chk (decide (0 ≤ 1) && decide (1 ≤ (↑vs.length : Int) + 2) && decide (vs.length ≤ big) && allB vs)
      (.cnd (closeB (bytesOf vs) FU 1)
        (.ok ((Out.ret (PV.d (DV.int IntKind.i64 (closeTo (bytesOf vs) FU 1))),
        [PObj.cells [PV.d (DV.slc 1 vs), PV.d (DV.int IntKind.i64 a)]])))
        (.ok ((Out.ret (PV.d (DV.int IntKind.i64 (↑vs.length : Int))), [PObj.cells [PV.d (DV.slc 1 vs), PV.d (DV.int IntKind.i64 a)]]))))) := by kernel_rfl
theorem round67_0 (F : Nat) {R : Type} (vs : List DV) (a n : Int) (K : Ex → St → Option R) (G : St → Option R) : roundK (pcodeK (ctx F [(93, .pure S93)]) noL (lp Tryd.f67 0)) 1 (allBut 23 [0, 3] ++ temps (lp Tryd.f67 0)) (allBut 23 [0, 2]) ⟨slots 23 [(0, .ptr 0 0), (3, .d (.int .i64 n))], [.cells [.d (.slc 1 vs), .d (.int .i64 a)]]⟩ K G =
    Tr.run
      (.cnd (decide (n > 0))
        (.chk (decide ((↑0 : Int) ≤ n))
        (.chk (decide (n ≤ (↑vs.length : Int)))
        (.chk (allU8 (List.drop (↑0 : Int).toNat (List.take n.toNat vs)))
        (.cnd (markB (bytesOf (List.drop (↑0 : Int).toNat (List.take n.toNat vs))))
          (.ok (.inl (Ex.ret, ⟨slots 23 [(0, PV.ptr 0 0), (2, PV.d (DV.int IntKind.i64 n))], [PObj.cells [PV.d (DV.slc 1 vs), PV.d (DV.int IntKind.i64 a)]]⟩)))
          (.ok (.inr ⟨slots 23 [(0, PV.ptr 0 0), (3, PV.d (DV.int IntKind.i64 (IntKind.i64.wrap (n - 1))))], [PObj.cells [PV.d (DV.slc 1 vs), PV.d (DV.int IntKind.i64 a)]]⟩))))))
        (.ok (.inl (Ex.exit 0, ⟨slots 23 [(0, PV.ptr 0 0)], [PObj.cells [PV.d (DV.slc 1 vs), PV.d (DV.int IntKind.i64 a)]]⟩)))) (rnd K G) := by kernel_rfl
/-! strings.CutPrefix -/
theorem fn96 : FnOk Tryd.prog 96 11 [.tmp 4, .tmp 5] (body Tryd.f96) := ⟨Tryd.f96, Tryd.func96, bodySome _ (by kernel_rfl), by kernel_rfl, by kernel_rfl, by kernel_rfl, by kernel_rfl⟩
theorem run96 (F : Nat) (s p : List UInt8) : runP (ctx F [(107, .pure S107)]) noL 11 [.tmp 4, .tmp 5] (body Tryd.f96) [.d (.str s), .d (.str p)] =
    Tr.val
      (.cnd (decide (p.length ≤ s.length ∧ List.take p.length s = p))
        (.ok (PV.tup [PV.d (DV.str (List.drop p.length s)), PV.d (DV.bool true)]))
        (.ok (PV.tup [PV.d (DV.str s), PV.d (DV.bool false)]))) := by kernel_rfl
/-! fasti token.number -/
theorem fn68 : FnOk Tryd.prog 68 58 [.cell 2 55, .tmp 3, .tmp 4] (body Tryd.f68) := ⟨Tryd.f68, Tryd.func68, bodySome _ (by kernel_rfl), by kernel_rfl, by kernel_rfl, by kernel_rfl, by kernel_rfl⟩
theorem run68 (F : Nat) (s : List UInt8) : runP (ctx F [(17, .pure S17), (96, .pure S107)]) noL 58 [.cell 2 55, .tmp 3, .tmp 4] (body Tryd.f68) [.d (.str s)] =
    Tr.val
      (.cnd (decide
        (([35] : List UInt8).length ≤ s.length ∧
          List.take ([35] : List UInt8).length s = ([35] : List UInt8)))
        (.chk (decide ((List.drop ([35] : List UInt8).length s).length ≤ big))
        (.cnd (decide ((parseR (List.drop ([35] : List UInt8).length s)).err = 5))
          (.ok (PV.tup
        [PV.d
            (DV.agg
              [DV.int IntKind.i64 (0), DV.str [], DV.int IntKind.i64 (0),
                DV.int IntKind.i64 (0)]),
          PV.d (DV.int IntKind.i64 (0)),
          PV.d (DV.int IntKind.i64 (parseR (List.drop ([35] : List UInt8).length s)).err)]))
          (.cnd (!decide ((parseR (List.drop ([35] : List UInt8).length s)).err = 0))
            (.ok (PV.tup
        [PV.d
            (DV.agg
              [DV.int IntKind.i64 (0), DV.str [], DV.int IntKind.i64 (0),
                DV.int IntKind.i64 (0)]),
          PV.d
            (DV.int IntKind.i64
              (IntKind.i64.wrap
                (IntKind.i64.wrap ((parseR (List.drop ([35] : List UInt8).length s)).pos + (↑s.length : Int)) -
                  (↑(List.drop ([35] : List UInt8).length s).length : Int)))),
          PV.d (DV.int IntKind.i64 (11))]))
            (.cnd (decide ((parseR (List.drop ([35] : List UInt8).length s)).kind = 2))
              (.ok (PV.tup
        [PV.d
            (DV.agg
              [DV.int IntKind.i64 (3), DV.str (parseR (List.drop ([35] : List UInt8).length s)).txt,
                DV.int IntKind.i64 (0), DV.int IntKind.i64 (0)]),
          PV.d (DV.int IntKind.i64 (0)), PV.d (DV.int IntKind.i64 (0))]))
              (.cnd (decide ((parseR (List.drop ([35] : List UInt8).length s)).n = 0))
                (.ok (PV.tup
        [PV.d
            (DV.agg
              [DV.int IntKind.i64 (0), DV.str [], DV.int IntKind.i64 (0),
                DV.int IntKind.i64 (0)]),
          PV.d (DV.int IntKind.i64 (1)), PV.d (DV.int IntKind.i64 (11))]))
                (.ok (PV.tup
        [PV.d
            (DV.agg
              [DV.int IntKind.i64 (4), DV.str [],
                DV.int IntKind.i64 (parseR (List.drop ([35] : List UInt8).length s)).n,
                DV.int IntKind.i64 (0)]),
          PV.d (DV.int IntKind.i64 (0)), PV.d (DV.int IntKind.i64 (0))])))))))
        (.chk (decide (s.length ≤ big))
        (.cnd (decide ((parseR s).err = 5))
          (.ok (PV.tup
        [PV.d
            (DV.agg
              [DV.int IntKind.i64 (0), DV.str [], DV.int IntKind.i64 (0),
                DV.int IntKind.i64 (0)]),
          PV.d (DV.int IntKind.i64 (0)), PV.d (DV.int IntKind.i64 (parseR s).err)]))
          (.cnd (!decide ((parseR s).err = 0))
            (.ok (PV.tup
        [PV.d
            (DV.agg
              [DV.int IntKind.i64 (0), DV.str [], DV.int IntKind.i64 (0),
                DV.int IntKind.i64 (0)]),
          PV.d
            (DV.int IntKind.i64
              (IntKind.i64.wrap (IntKind.i64.wrap ((parseR s).pos + (↑s.length : Int)) - (↑s.length : Int)))),
          PV.d (DV.int IntKind.i64 (11))]))
            (.cnd (decide ((parseR s).kind = 2))
              (.ok (PV.tup
        [PV.d
            (DV.agg
              [DV.int IntKind.i64 (3), DV.str (parseR s).txt, DV.int IntKind.i64 (0),
                DV.int IntKind.i64 (0)]),
          PV.d (DV.int IntKind.i64 (0)), PV.d (DV.int IntKind.i64 (0))]))
              (.ok (PV.tup
        [PV.d
            (DV.agg
              [DV.int IntKind.i64 (2), DV.str [], DV.int IntKind.i64 (parseR s).n,
                DV.int IntKind.i64 (0)]),
          PV.d (DV.int IntKind.i64 (0)), PV.d (DV.int IntKind.i64 (0))]))))))) := by kernel_rfl
/-! (*fasti token.reader).next -/
theorem fn39 : FnOk Tryd.prog 39 66 [.cell 2 55, .tmp 3, .tmp 4] (body Tryd.f39) := ⟨Tryd.f39, Tryd.func39, bodySome _ (by kernel_rfl), by kernel_rfl, by kernel_rfl, by kernel_rfl, by kernel_rfl⟩
theorem run39 (F : Nat) (vs : List DV) (a : Int) : runE (ctx F [(38, .eff (frameT S38)), (65, .eff (frameT S65)), (66, .eff (frameT S66)), (67, .eff (frameT S67)), (68, .pure S68)]) noL 66 [.cell 2 55, .tmp 3, .tmp 4] (body Tryd.f39) [.ptr 0 0] [.cells [.d (.slc 1 vs), .d (.int .i64 a)]] =
    Tr.val
      (.chk (decide (Int.toNat 0 < vs.length))
      (.chk (fits
        [.int .u8 0]
        (gt DV.nili vs (Int.toNat 0)).cells)
      (.cnd (decide (atI vs (Int.toNat 0) 0 ≥ 97))
        (.cnd (decide (atI vs (Int.toNat 0) 0 ≤ 122))
          (.chk (decide (0 ≤ 0) && decide (0 ≤ (↑vs.length : Int)) && decide (vs.length ≤ big) && allB vs)
          (.chk (decide (0 ≤ runTo (bytesOf vs) true FU 0) && decide (runTo (bytesOf vs) true FU 0 ≤ (↑vs.length : Int)) &&
              decide (vs.length ≤ big) &&
            allB vs &&
          decide (0 ≤ a) &&
        decide (a ≤ (↑big : Int)))
          (.cnd (decide ((↑(List.take (runTo (bytesOf vs) true FU 0).toNat (bytesOf vs)).length : Int) > 12))
            (.ok ((Out.ret
          (PV.tup
            [PV.d
                (DV.agg
                  [DV.int IntKind.i64 (0), DV.str [], DV.int IntKind.i64 (0),
                    DV.int IntKind.i64 (0)]),
              PV.d (DV.int IntKind.i64 (0)), PV.d (DV.int IntKind.i64 (5))]),
        [PObj.cells
            [PV.d (DV.slc 1 (List.drop (runTo (bytesOf vs) true FU 0).toNat vs)),
              PV.d (DV.int IntKind.i64 (a + runTo (bytesOf vs) true FU 0))]])))
            (.ok ((Out.ret
          (PV.tup
            [PV.d
                (DV.agg
                  [DV.int IntKind.i64 (1), DV.str (List.take (runTo (bytesOf vs) true FU 0).toNat (bytesOf vs)),
                    DV.int IntKind.i64 (0), DV.int IntKind.i64 (0)]),
              PV.d (DV.int IntKind.i64 (0)), PV.d (DV.int IntKind.i64 (0))]),
        [PObj.cells
            [PV.d (DV.slc 1 (List.drop (runTo (bytesOf vs) true FU 0).toNat vs)),
              PV.d (DV.int IntKind.i64 (a + runTo (bytesOf vs) true FU 0))]]))))))
          (.cnd (decide (atI vs (Int.toNat 0) 0 = 34))
            (.chk (decide (vs.length ≤ big) && allB vs)
            (.chk (decide (0 ≤ closeTo (bytesOf vs) FU 1) && decide (closeTo (bytesOf vs) FU 1 ≤ (↑vs.length : Int)) &&
              decide (vs.length ≤ big) &&
            allB vs &&
          decide (0 ≤ a) &&
        decide (a ≤ (↑big : Int)))
            (.chk (decide (1 ≤ (List.take (closeTo (bytesOf vs) FU 1).toNat (bytesOf vs)).length) &&
        decide ((List.take (closeTo (bytesOf vs) FU 1).toNat (bytesOf vs)).length ≤ big))
            (.ok ((Out.ret
          (PV.tup
            [PV.d
                (DV.agg
                  [DV.int IntKind.i64 (numT (List.take (closeTo (bytesOf vs) FU 1).toNat (bytesOf vs))).kind,
                    DV.str (numT (List.take (closeTo (bytesOf vs) FU 1).toNat (bytesOf vs))).txt,
                    DV.int IntKind.i64 (numT (List.take (closeTo (bytesOf vs) FU 1).toNat (bytesOf vs))).n,
                    DV.int IntKind.i64 (0)]),
              PV.d (DV.int IntKind.i64 (numT (List.take (closeTo (bytesOf vs) FU 1).toNat (bytesOf vs))).pos),
              PV.d (DV.int IntKind.i64 (numT (List.take (closeTo (bytesOf vs) FU 1).toNat (bytesOf vs))).err)]),
        [PObj.cells
            [PV.d (DV.slc 1 (List.drop (closeTo (bytesOf vs) FU 1).toNat vs)),
              PV.d (DV.int IntKind.i64 (a + closeTo (bytesOf vs) FU 1))]]))))))
            (.cnd (decide (atI vs (Int.toNat 0) 0 = 45))
              (.chk (decide (0 ≤ 1) && decide (1 ≤ (↑vs.length : Int)) && decide (vs.length ≤ big) && allB vs)
              (.chk (decide (0 ≤ runTo (bytesOf vs) false FU 1) && decide (runTo (bytesOf vs) false FU 1 ≤ (↑vs.length : Int)) &&
              decide (vs.length ≤ big) &&
            allB vs &&
          decide (0 ≤ a) &&
        decide (a ≤ (↑big : Int)))
              (.chk (decide (1 ≤ (List.take (runTo (bytesOf vs) false FU 1).toNat (bytesOf vs)).length) &&
        decide ((List.take (runTo (bytesOf vs) false FU 1).toNat (bytesOf vs)).length ≤ big))
              (.ok ((Out.ret
          (PV.tup
            [PV.d
                (DV.agg
                  [DV.int IntKind.i64 (numT (List.take (runTo (bytesOf vs) false FU 1).toNat (bytesOf vs))).kind,
                    DV.str (numT (List.take (runTo (bytesOf vs) false FU 1).toNat (bytesOf vs))).txt,
                    DV.int IntKind.i64 (numT (List.take (runTo (bytesOf vs) false FU 1).toNat (bytesOf vs))).n,
                    DV.int IntKind.i64 (0)]),
              PV.d (DV.int IntKind.i64 (numT (List.take (runTo (bytesOf vs) false FU 1).toNat (bytesOf vs))).pos),
              PV.d (DV.int IntKind.i64 (numT (List.take (runTo (bytesOf vs) false FU 1).toNat (bytesOf vs))).err)]),
        [PObj.cells
            [PV.d (DV.slc 1 (List.drop (runTo (bytesOf vs) false FU 1).toNat vs)),
              PV.d (DV.int IntKind.i64 (a + runTo (bytesOf vs) false FU 1))]]))))))
              (.cnd (decide (atI vs (Int.toNat 0) 0 = 35))
                (.chk (decide (0 ≤ 1) && decide (1 ≤ (↑vs.length : Int)) && decide (vs.length ≤ big) && allB vs)
                (.chk (decide (0 ≤ runTo (bytesOf vs) false FU 1) && decide (runTo (bytesOf vs) false FU 1 ≤ (↑vs.length : Int)) &&
              decide (vs.length ≤ big) &&
            allB vs &&
          decide (0 ≤ a) &&
        decide (a ≤ (↑big : Int)))
                (.chk (decide (1 ≤ (List.take (runTo (bytesOf vs) false FU 1).toNat (bytesOf vs)).length) &&
        decide ((List.take (runTo (bytesOf vs) false FU 1).toNat (bytesOf vs)).length ≤ big))
                (.ok ((Out.ret
          (PV.tup
            [PV.d
                (DV.agg
                  [DV.int IntKind.i64 (numT (List.take (runTo (bytesOf vs) false FU 1).toNat (bytesOf vs))).kind,
                    DV.str (numT (List.take (runTo (bytesOf vs) false FU 1).toNat (bytesOf vs))).txt,
                    DV.int IntKind.i64 (numT (List.take (runTo (bytesOf vs) false FU 1).toNat (bytesOf vs))).n,
                    DV.int IntKind.i64 (0)]),
              PV.d (DV.int IntKind.i64 (numT (List.take (runTo (bytesOf vs) false FU 1).toNat (bytesOf vs))).pos),
              PV.d (DV.int IntKind.i64 (numT (List.take (runTo (bytesOf vs) false FU 1).toNat (bytesOf vs))).err)]),
        [PObj.cells
            [PV.d (DV.slc 1 (List.drop (runTo (bytesOf vs) false FU 1).toNat vs)),
              PV.d (DV.int IntKind.i64 (a + runTo (bytesOf vs) false FU 1))]]))))))
                (.cnd (decide (atI vs (Int.toNat 0) 0 ≥ 48))
                  (.cnd (decide (atI vs (Int.toNat 0) 0 ≤ 57))
                    (.chk (decide (0 ≤ 1) && decide (1 ≤ (↑vs.length : Int)) && decide (vs.length ≤ big) && allB vs)
                    (.chk (decide (0 ≤ runTo (bytesOf vs) false FU 1) && decide (runTo (bytesOf vs) false FU 1 ≤ (↑vs.length : Int)) &&
              decide (vs.length ≤ big) &&
            allB vs &&
          decide (0 ≤ a) &&
        decide (a ≤ (↑big : Int)))
                    (.chk (decide (1 ≤ (List.take (runTo (bytesOf vs) false FU 1).toNat (bytesOf vs)).length) &&
        decide ((List.take (runTo (bytesOf vs) false FU 1).toNat (bytesOf vs)).length ≤ big))
                    (.ok ((Out.ret
          (PV.tup
            [PV.d
                (DV.agg
                  [DV.int IntKind.i64 (numT (List.take (runTo (bytesOf vs) false FU 1).toNat (bytesOf vs))).kind,
                    DV.str (numT (List.take (runTo (bytesOf vs) false FU 1).toNat (bytesOf vs))).txt,
                    DV.int IntKind.i64 (numT (List.take (runTo (bytesOf vs) false FU 1).toNat (bytesOf vs))).n,
                    DV.int IntKind.i64 (0)]),
              PV.d (DV.int IntKind.i64 (numT (List.take (runTo (bytesOf vs) false FU 1).toNat (bytesOf vs))).pos),
              PV.d (DV.int IntKind.i64 (numT (List.take (runTo (bytesOf vs) false FU 1).toNat (bytesOf vs))).err)]),
        [PObj.cells
            [PV.d (DV.slc 1 (List.drop (runTo (bytesOf vs) false FU 1).toNat vs)),
              PV.d (DV.int IntKind.i64 (a + runTo (bytesOf vs) false FU 1))]]))))))
                    (.chk (decide (vs.length ≤ big) && allB vs)
                    (.cnd (decide (marksN (bytesOf vs) = 0))
                      (.ok ((Out.ret
          (PV.tup
            [PV.d
                (DV.agg
                  [DV.int IntKind.i64 (0), DV.str [], DV.int IntKind.i64 (0),
                    DV.int IntKind.i64 (0)]),
              PV.d (DV.int IntKind.i64 (0)), PV.d (DV.int IntKind.i64 (11))]),
        [PObj.cells [PV.d (DV.slc 1 vs), PV.d (DV.int IntKind.i64 a)]])))
                      (.chk (decide (0 ≤ marksN (bytesOf vs)) && decide (marksN (bytesOf vs) ≤ (↑vs.length : Int)) && decide (vs.length ≤ big) &&
            allB vs &&
          decide (0 ≤ a) &&
        decide (a ≤ (↑big : Int)))
                      (.ok ((Out.ret
          (PV.tup
            [PV.d
                (DV.agg
                  [DV.int IntKind.i64 (5), DV.str (List.take (marksN (bytesOf vs)).toNat (bytesOf vs)),
                    DV.int IntKind.i64 (0), DV.int IntKind.i64 (0)]),
              PV.d (DV.int IntKind.i64 (0)), PV.d (DV.int IntKind.i64 (0))]),
        [PObj.cells
            [PV.d (DV.slc 1 (List.drop (marksN (bytesOf vs)).toNat vs)),
              PV.d (DV.int IntKind.i64 (a + marksN (bytesOf vs)))]])))))))
                  (.chk (decide (vs.length ≤ big) && allB vs)
                  (.cnd (decide (marksN (bytesOf vs) = 0))
                    (.ok ((Out.ret
          (PV.tup
            [PV.d
                (DV.agg
                  [DV.int IntKind.i64 (0), DV.str [], DV.int IntKind.i64 (0),
                    DV.int IntKind.i64 (0)]),
              PV.d (DV.int IntKind.i64 (0)), PV.d (DV.int IntKind.i64 (11))]),
        [PObj.cells [PV.d (DV.slc 1 vs), PV.d (DV.int IntKind.i64 a)]])))
                    (.chk (decide (0 ≤ marksN (bytesOf vs)) && decide (marksN (bytesOf vs) ≤ (↑vs.length : Int)) && decide (vs.length ≤ big) &&
            allB vs &&
          decide (0 ≤ a) &&
        decide (a ≤ (↑big : Int)))
                    (.ok ((Out.ret
          (PV.tup
            [PV.d
                (DV.agg
                  [DV.int IntKind.i64 (5), DV.str (List.take (marksN (bytesOf vs)).toNat (bytesOf vs)),
                    DV.int IntKind.i64 (0), DV.int IntKind.i64 (0)]),
              PV.d (DV.int IntKind.i64 (0)), PV.d (DV.int IntKind.i64 (0))]),
        [PObj.cells
            [PV.d (DV.slc 1 (List.drop (marksN (bytesOf vs)).toNat vs)),
              PV.d (DV.int IntKind.i64 (a + marksN (bytesOf vs)))]])))))))))))
        (.cnd (decide (atI vs (Int.toNat 0) 0 = 34))
          (.chk (decide (vs.length ≤ big) && allB vs)
          (.chk (decide (0 ≤ closeTo (bytesOf vs) FU 1) && decide (closeTo (bytesOf vs) FU 1 ≤ (↑vs.length : Int)) &&
              decide (vs.length ≤ big) &&
            allB vs &&
          decide (0 ≤ a) &&
        decide (a ≤ (↑big : Int)))
          (.chk (decide (1 ≤ (List.take (closeTo (bytesOf vs) FU 1).toNat (bytesOf vs)).length) &&
        decide ((List.take (closeTo (bytesOf vs) FU 1).toNat (bytesOf vs)).length ≤ big))
          (.ok ((Out.ret
          (PV.tup
            [PV.d
                (DV.agg
                  [DV.int IntKind.i64 (numT (List.take (closeTo (bytesOf vs) FU 1).toNat (bytesOf vs))).kind,
                    DV.str (numT (List.take (closeTo (bytesOf vs) FU 1).toNat (bytesOf vs))).txt,
                    DV.int IntKind.i64 (numT (List.take (closeTo (bytesOf vs) FU 1).toNat (bytesOf vs))).n,
                    DV.int IntKind.i64 (0)]),
              PV.d (DV.int IntKind.i64 (numT (List.take (closeTo (bytesOf vs) FU 1).toNat (bytesOf vs))).pos),
              PV.d (DV.int IntKind.i64 (numT (List.take (closeTo (bytesOf vs) FU 1).toNat (bytesOf vs))).err)]),
        [PObj.cells
            [PV.d (DV.slc 1 (List.drop (closeTo (bytesOf vs) FU 1).toNat vs)),
              PV.d (DV.int IntKind.i64 (a + closeTo (bytesOf vs) FU 1))]]))))))
          (.cnd (decide (atI vs (Int.toNat 0) 0 = 45))
            (.chk (decide (0 ≤ 1) && decide (1 ≤ (↑vs.length : Int)) && decide (vs.length ≤ big) && allB vs)
            (.chk (decide (0 ≤ runTo (bytesOf vs) false FU 1) && decide (runTo (bytesOf vs) false FU 1 ≤ (↑vs.length : Int)) &&
              decide (vs.length ≤ big) &&
            allB vs &&
          decide (0 ≤ a) &&
        decide (a ≤ (↑big : Int)))
            (.chk (decide (1 ≤ (List.take (runTo (bytesOf vs) false FU 1).toNat (bytesOf vs)).length) &&
        decide ((List.take (runTo (bytesOf vs) false FU 1).toNat (bytesOf vs)).length ≤ big))
            (.ok ((Out.ret
          (PV.tup
            [PV.d
                (DV.agg
                  [DV.int IntKind.i64 (numT (List.take (runTo (bytesOf vs) false FU 1).toNat (bytesOf vs))).kind,
                    DV.str (numT (List.take (runTo (bytesOf vs) false FU 1).toNat (bytesOf vs))).txt,
                    DV.int IntKind.i64 (numT (List.take (runTo (bytesOf vs) false FU 1).toNat (bytesOf vs))).n,
                    DV.int IntKind.i64 (0)]),
              PV.d (DV.int IntKind.i64 (numT (List.take (runTo (bytesOf vs) false FU 1).toNat (bytesOf vs))).pos),
              PV.d (DV.int IntKind.i64 (numT (List.take (runTo (bytesOf vs) false FU 1).toNat (bytesOf vs))).err)]),
        [PObj.cells
            [PV.d (DV.slc 1 (List.drop (runTo (bytesOf vs) false FU 1).toNat vs)),
              PV.d (DV.int IntKind.i64 (a + runTo (bytesOf vs) false FU 1))]]))))))
            (.cnd (decide (atI vs (Int.toNat 0) 0 = 35))
              (.chk (decide (0 ≤ 1) && decide (1 ≤ (↑vs.length : Int)) && decide (vs.length ≤ big) && allB vs)
              (.chk (decide (0 ≤ runTo (bytesOf vs) false FU 1) && decide (runTo (bytesOf vs) false FU 1 ≤ (↑vs.length : Int)) &&
              decide (vs.length ≤ big) &&
            allB vs &&
          decide (0 ≤ a) &&
        decide (a ≤ (↑big : Int)))
              (.chk (decide (1 ≤ (List.take (runTo (bytesOf vs) false FU 1).toNat (bytesOf vs)).length) &&
        decide ((List.take (runTo (bytesOf vs) false FU 1).toNat (bytesOf vs)).length ≤ big))
              (.ok ((Out.ret
          (PV.tup
            [PV.d
                (DV.agg
                  [DV.int IntKind.i64 (numT (List.take (runTo (bytesOf vs) false FU 1).toNat (bytesOf vs))).kind,
                    DV.str (numT (List.take (runTo (bytesOf vs) false FU 1).toNat (bytesOf vs))).txt,
                    DV.int IntKind.i64 (numT (List.take (runTo (bytesOf vs) false FU 1).toNat (bytesOf vs))).n,
                    DV.int IntKind.i64 (0)]),
              PV.d (DV.int IntKind.i64 (numT (List.take (runTo (bytesOf vs) false FU 1).toNat (bytesOf vs))).pos),
              PV.d (DV.int IntKind.i64 (numT (List.take (runTo (bytesOf vs) false FU 1).toNat (bytesOf vs))).err)]),
        [PObj.cells
            [PV.d (DV.slc 1 (List.drop (runTo (bytesOf vs) false FU 1).toNat vs)),
              PV.d (DV.int IntKind.i64 (a + runTo (bytesOf vs) false FU 1))]]))))))
              (.cnd (decide (atI vs (Int.toNat 0) 0 ≥ 48))
                (.cnd (decide (atI vs (Int.toNat 0) 0 ≤ 57))
                  (.chk (decide (0 ≤ 1) && decide (1 ≤ (↑vs.length : Int)) && decide (vs.length ≤ big) && allB vs)
                  (.chk (decide (0 ≤ runTo (bytesOf vs) false FU 1) && decide (runTo (bytesOf vs) false FU 1 ≤ (↑vs.length : Int)) &&
              decide (vs.length ≤ big) &&
            allB vs &&
          decide (0 ≤ a) &&
        decide (a ≤ (↑big : Int)))
                  (.chk (decide (1 ≤ (List.take (runTo (bytesOf vs) false FU 1).toNat (bytesOf vs)).length) &&
        decide ((List.take (runTo (bytesOf vs) false FU 1).toNat (bytesOf vs)).length ≤ big))
                  (.ok ((Out.ret
          (PV.tup
            [PV.d
                (DV.agg
                  [DV.int IntKind.i64 (numT (List.take (runTo (bytesOf vs) false FU 1).toNat (bytesOf vs))).kind,
                    DV.str (numT (List.take (runTo (bytesOf vs) false FU 1).toNat (bytesOf vs))).txt,
                    DV.int IntKind.i64 (numT (List.take (runTo (bytesOf vs) false FU 1).toNat (bytesOf vs))).n,
                    DV.int IntKind.i64 (0)]),
              PV.d (DV.int IntKind.i64 (numT (List.take (runTo (bytesOf vs) false FU 1).toNat (bytesOf vs))).pos),
              PV.d (DV.int IntKind.i64 (numT (List.take (runTo (bytesOf vs) false FU 1).toNat (bytesOf vs))).err)]),
        [PObj.cells
            [PV.d (DV.slc 1 (List.drop (runTo (bytesOf vs) false FU 1).toNat vs)),
              PV.d (DV.int IntKind.i64 (a + runTo (bytesOf vs) false FU 1))]]))))))
                  (.chk (decide (vs.length ≤ big) && allB vs)
                  (.cnd (decide (marksN (bytesOf vs) = 0))
                    (.ok ((Out.ret
          (PV.tup
            [PV.d
                (DV.agg
                  [DV.int IntKind.i64 (0), DV.str [], DV.int IntKind.i64 (0),
                    DV.int IntKind.i64 (0)]),
              PV.d (DV.int IntKind.i64 (0)), PV.d (DV.int IntKind.i64 (11))]),
        [PObj.cells [PV.d (DV.slc 1 vs), PV.d (DV.int IntKind.i64 a)]])))
                    (.chk (decide (0 ≤ marksN (bytesOf vs)) && decide (marksN (bytesOf vs) ≤ (↑vs.length : Int)) && decide (vs.length ≤ big) &&
            allB vs &&
          decide (0 ≤ a) &&
        decide (a ≤ (↑big : Int)))
                    (.ok ((Out.ret
          (PV.tup
            [PV.d
                (DV.agg
                  [DV.int IntKind.i64 (5), DV.str (List.take (marksN (bytesOf vs)).toNat (bytesOf vs)),
                    DV.int IntKind.i64 (0), DV.int IntKind.i64 (0)]),
              PV.d (DV.int IntKind.i64 (0)), PV.d (DV.int IntKind.i64 (0))]),
        [PObj.cells
            [PV.d (DV.slc 1 (List.drop (marksN (bytesOf vs)).toNat vs)),
              PV.d (DV.int IntKind.i64 (a + marksN (bytesOf vs)))]])))))))
                (.chk (decide (vs.length ≤ big) && allB vs)
                (.cnd (decide (marksN (bytesOf vs) = 0))
                  (.ok ((Out.ret
          (PV.tup
            [PV.d
                (DV.agg
                  [DV.int IntKind.i64 (0), DV.str [], DV.int IntKind.i64 (0),
                    DV.int IntKind.i64 (0)]),
              PV.d (DV.int IntKind.i64 (0)), PV.d (DV.int IntKind.i64 (11))]),
        [PObj.cells [PV.d (DV.slc 1 vs), PV.d (DV.int IntKind.i64 a)]])))
                  (.chk (decide (0 ≤ marksN (bytesOf vs)) && decide (marksN (bytesOf vs) ≤ (↑vs.length : Int)) && decide (vs.length ≤ big) &&
            allB vs &&
          decide (0 ≤ a) &&
        decide (a ≤ (↑big : Int)))
                  (.ok ((Out.ret
          (PV.tup
            [PV.d
                (DV.agg
                  [DV.int IntKind.i64 (5), DV.str (List.take (marksN (bytesOf vs)).toNat (bytesOf vs)),
                    DV.int IntKind.i64 (0), DV.int IntKind.i64 (0)]),
              PV.d (DV.int IntKind.i64 (0)), PV.d (DV.int IntKind.i64 (0))]),
        [PObj.cells
            [PV.d (DV.slc 1 (List.drop (marksN (bytesOf vs)).toNat vs)),
              PV.d (DV.int IntKind.i64 (a + marksN (bytesOf vs)))]]))))))))))))) := by kernel_rfl
theorem round70_0 (F : Nat) {R : Type} (s : List UInt8) (n : Int) (c : Bool) (K : Ex → St → Option R) (G : St → Option R) : roundK (pcodeK (ctx F [(69, .pure S69), (71, .pure S71)]) noL (lp Tryd.f70 0)) 0 (allBut 29 [0, 1, 2] ++ temps (lp Tryd.f70 0)) (allBut 29 [0, 1, 2]) ⟨slots 29 [(0, .d (.str s)), (1, .d (.int .i64 n)), (2, .d (.bool c))], []⟩ K G =
    Tr.run
      (.cnd (decide (n < (↑s.length : Int)))
        (.chk (decide (0 ≤ n))
        (.chk (decide (n.toNat < s.length))
        (.cnd (isDigit (↑(s.getD n.toNat 0).toNat : Int))
          (.ok (.inr ⟨slots 29 [(0, PV.d (DV.str s)), (1, PV.d (DV.int IntKind.i64 (IntKind.i64.wrap (n + 1)))), (2, PV.d (DV.bool c))], []⟩))
          (.cnd (c)
            (.chk (decide (0 ≤ n))
            (.chk (decide (n.toNat < s.length))
            (.cnd (smallB (↑(s.getD n.toNat 0).toNat : Int))
              (.ok (.inr ⟨slots 29 [(0, PV.d (DV.str s)), (1, PV.d (DV.int IntKind.i64 (IntKind.i64.wrap (n + 1)))), (2, PV.d (DV.bool c))], []⟩))
              (.ok (.inl (Ex.exit 0, ⟨slots 29 [(0, PV.d (DV.str s)), (1, PV.d (DV.int IntKind.i64 n)), (2, PV.d (DV.bool c))], []⟩))))))
            (.ok (.inl (Ex.exit 0, ⟨slots 29 [(0, PV.d (DV.str s)), (1, PV.d (DV.int IntKind.i64 n)), (2, PV.d (DV.bool c))], []⟩)))))))
        (.ok (.inl (Ex.exit 0, ⟨slots 29 [(0, PV.d (DV.str s)), (1, PV.d (DV.int IntKind.i64 n)), (2, PV.d (DV.bool c))], []⟩)))) (rnd K G) := by kernel_rfl
theorem round72_0 (F : Nat) {R : Type} (s : List UInt8) (a n : Int) (K : Ex → St → Option R) (G : St → Option R) : roundK (pcodeK (ctx F []) noL (lp Tryd.f72 0)) 0 (allBut 28 [0, 1, 5] ++ temps (lp Tryd.f72 0)) (allBut 28 [0, 1, 4]) ⟨slots 28 [(0, .d (.str s)), (1, .d (.int .i64 a)), (5, .d (.int .i64 n))], []⟩ K G =
    Tr.run
      (.cnd (decide (n < (↑s.length : Int)))
        (.chk (decide (0 ≤ n))
        (.chk (decide (n.toNat < s.length))
        (.cnd (decide ((↑(s.getD n.toNat 0).toNat : Int) = 34))
          (.ok (.inl (Ex.ret, ⟨slots 28 [(0, PV.d (DV.str s)), (1, PV.d (DV.int IntKind.i64 a)), (4, PV.d (DV.int IntKind.i64 (IntKind.i64.wrap (n + 1))))], []⟩)))
          (.chk (decide (0 ≤ n))
          (.chk (decide (n.toNat < s.length))
          (.cnd (decide ((↑(s.getD n.toNat 0).toNat : Int) = 92))
            (.ok (.inr ⟨slots 28 [(0, PV.d (DV.str s)), (1, PV.d (DV.int IntKind.i64 a)), (5, PV.d (DV.int IntKind.i64 (IntKind.i64.wrap (IntKind.i64.wrap (n + 1) + 1))))], []⟩))
            (.ok (.inr ⟨slots 28 [(0, PV.d (DV.str s)), (1, PV.d (DV.int IntKind.i64 a)), (5, PV.d (DV.int IntKind.i64 (IntKind.i64.wrap (n + 1))))], []⟩))))))))
        (.ok (.inl (Ex.exit 0, ⟨slots 28 [(0, PV.d (DV.str s)), (1, PV.d (DV.int IntKind.i64 a))], []⟩)))) (rnd K G) := by kernel_rfl
/-! fasti fastiref16.read -/
theorem fn41 : FnOk Tryd.prog 41 67 [.cell 2 55, .tmp 3, .tmp 4] (body Tryd.f41) := ⟨Tryd.f41, Tryd.func41, bodySome _ (by kernel_rfl), by kernel_rfl, by kernel_rfl, by kernel_rfl, by kernel_rfl⟩
theorem run41 (F : Nat) (s : List UInt8) : runP (ctx F [(18, .pure S17), (69, .pure S69), (73, .pure S93)]) noL 67 [.cell 2 55, .tmp 3, .tmp 4] (body Tryd.f41) [.d (.str s)] =
    Tr.val
      (.chk (decide (Int.toNat 0 < s.length))
      (.cnd (smallB (↑(s.getD (Int.toNat 0) 0).toNat : Int))
        (.cnd (decide ((↑s.length : Int) > 12))
          (.ok (PV.tup
        [PV.d
            (DV.agg
              [DV.int IntKind.i64 (0), DV.str [], DV.int IntKind.i64 (0),
                DV.int IntKind.i64 (0)]),
          PV.d (DV.int IntKind.i64 (0)), PV.d (DV.int IntKind.i64 (5))]))
          (.ok (PV.tup
        [PV.d
            (DV.agg
              [DV.int IntKind.i64 (1), DV.str s, DV.int IntKind.i64 (0),
                DV.int IntKind.i64 (0)]),
          PV.d (DV.int IntKind.i64 (0)), PV.d (DV.int IntKind.i64 (0))])))
        (.cnd (markB s)
          (.ok (PV.tup
        [PV.d
            (DV.agg
              [DV.int IntKind.i64 (5), DV.str s, DV.int IntKind.i64 (0),
                DV.int IntKind.i64 (0)]),
          PV.d (DV.int IntKind.i64 (0)), PV.d (DV.int IntKind.i64 (0))]))
          (.chk (decide (Int.toNat 0 < s.length))
          (.cnd (decide ((↑(s.getD (Int.toNat 0) 0).toNat : Int) = 35))
            (.chk (decide (1 ≤ (↑s.length : Int)))
            (.chk (decide ((↑s.length : Int) ≤ (↑s.length : Int)))
            (.chk (decide ((List.drop (Int.toNat 1) (List.take (↑s.length : Int).toNat s)).length ≤ big))
            (.cnd (decide ((parseR (List.drop (Int.toNat 1) (List.take (↑s.length : Int).toNat s))).err = 5))
              (.ok (PV.tup
        [PV.d
            (DV.agg
              [DV.int IntKind.i64 (0), DV.str [], DV.int IntKind.i64 (0),
                DV.int IntKind.i64 (0)]),
          PV.d (DV.int IntKind.i64 (0)), PV.d (DV.int IntKind.i64 (5))]))
              (.cnd (!decide ((parseR (List.drop (Int.toNat 1) (List.take (↑s.length : Int).toNat s))).err = 0))
                (.ok (PV.tup
        [PV.d
            (DV.agg
              [DV.int IntKind.i64 (0), DV.str [], DV.int IntKind.i64 (0),
                DV.int IntKind.i64 (0)]),
          PV.d
            (DV.int IntKind.i64
              (IntKind.i64.wrap (1 + (parseR (List.drop (Int.toNat 1) (List.take (↑s.length : Int).toNat s))).pos))),
          PV.d (DV.int IntKind.i64 (11))]))
                (.cnd (decide ((parseR (List.drop (Int.toNat 1) (List.take (↑s.length : Int).toNat s))).kind = 2))
                  (.ok (PV.tup
        [PV.d
            (DV.agg
              [DV.int IntKind.i64 (3),
                DV.str (parseR (List.drop (Int.toNat 1) (List.take (↑s.length : Int).toNat s))).txt,
                DV.int IntKind.i64 (0), DV.int IntKind.i64 (0)]),
          PV.d (DV.int IntKind.i64 (0)), PV.d (DV.int IntKind.i64 (0))]))
                  (.cnd (decide ((parseR (List.drop (Int.toNat 1) (List.take (↑s.length : Int).toNat s))).n = 0))
                    (.ok (PV.tup
        [PV.d
            (DV.agg
              [DV.int IntKind.i64 (0), DV.str [], DV.int IntKind.i64 (0),
                DV.int IntKind.i64 (0)]),
          PV.d (DV.int IntKind.i64 (1)), PV.d (DV.int IntKind.i64 (11))]))
                    (.ok (PV.tup
        [PV.d
            (DV.agg
              [DV.int IntKind.i64 (4), DV.str [],
                DV.int IntKind.i64 (parseR (List.drop (Int.toNat 1) (List.take (↑s.length : Int).toNat s))).n,
                DV.int IntKind.i64 (0)]),
          PV.d (DV.int IntKind.i64 (0)), PV.d (DV.int IntKind.i64 (0))])))))))))
            (.chk (decide ((↑s.length : Int) ≤ (↑s.length : Int)))
            (.chk (decide ((List.drop (Int.toNat 0) (List.take (↑s.length : Int).toNat s)).length ≤ big))
            (.cnd (decide ((parseR (List.drop (Int.toNat 0) (List.take (↑s.length : Int).toNat s))).err = 5))
              (.ok (PV.tup
        [PV.d
            (DV.agg
              [DV.int IntKind.i64 (0), DV.str [], DV.int IntKind.i64 (0),
                DV.int IntKind.i64 (0)]),
          PV.d (DV.int IntKind.i64 (0)), PV.d (DV.int IntKind.i64 (5))]))
              (.cnd (!decide ((parseR (List.drop (Int.toNat 0) (List.take (↑s.length : Int).toNat s))).err = 0))
                (.ok (PV.tup
        [PV.d
            (DV.agg
              [DV.int IntKind.i64 (0), DV.str [], DV.int IntKind.i64 (0),
                DV.int IntKind.i64 (0)]),
          PV.d
            (DV.int IntKind.i64
              (IntKind.i64.wrap (0 + (parseR (List.drop (Int.toNat 0) (List.take (↑s.length : Int).toNat s))).pos))),
          PV.d (DV.int IntKind.i64 (11))]))
                (.cnd (decide ((parseR (List.drop (Int.toNat 0) (List.take (↑s.length : Int).toNat s))).kind = 2))
                  (.ok (PV.tup
        [PV.d
            (DV.agg
              [DV.int IntKind.i64 (3),
                DV.str (parseR (List.drop (Int.toNat 0) (List.take (↑s.length : Int).toNat s))).txt,
                DV.int IntKind.i64 (0), DV.int IntKind.i64 (0)]),
          PV.d (DV.int IntKind.i64 (0)), PV.d (DV.int IntKind.i64 (0))]))
                  (.ok (PV.tup
        [PV.d
            (DV.agg
              [DV.int IntKind.i64 (2), DV.str [],
                DV.int IntKind.i64 (parseR (List.drop (Int.toNat 0) (List.take (↑s.length : Int).toNat s))).n,
                DV.int IntKind.i64 (0)]),
          PV.d (DV.int IntKind.i64 (0)), PV.d (DV.int IntKind.i64 (0))])))))))))))) := by kernel_rfl
end Go.PS
end

section
namespace Go.PS
open Go.Proofs
theorem ok95 (W0 : World) : EKOk Tryd.prog W0 95 (.pure S95) := by
  refine pure_of (tyOk 0 []) (look_ok all_nil) mixed fn95 (lpsOk_no _ _) fun args r h => ?_
  unfold S95 at h
  split at h
  · rename_i b
    refine (run95 0 b).trans ?_
    rw [← h]
    simp only [Tr.val_ok, Tr.val_cnd, cnd_dec]
    by_cases h1 : 97 ≤ b <;> by_cases h2 : 48 ≤ b <;> simp [isDigit, h1, h2]
  · simp [Tr.val_no] at h
theorem ok69 (W0 : World) : EKOk Tryd.prog W0 69 (.pure S69) := by
  refine pure_of (tyOk 0 []) (look_ok all_nil) mixed fn69 (lpsOk_no _ _) fun args r h => ?_
  unfold S69 at h
  split at h
  · rename_i b
    refine (run69 0 b).trans ?_
    rw [← h]
    simp only [Tr.val_ok, Tr.val_cnd, cnd_dec]
    by_cases h1 : 97 ≤ b <;> simp [smallB, h1]
  · simp [Tr.val_no] at h
theorem ok71 (W0 : World) : EKOk Tryd.prog W0 71 (.pure S71) := by
  refine pure_of (tyOk 0 []) (look_ok all_nil) mixed fn71 (lpsOk_no _ _) fun args r h => ?_
  unfold S71 at h
  split at h
  · rename_i b
    refine (run71 0 b).trans ?_
    rw [← h]
    simp only [Tr.val_ok, Tr.val_cnd, cnd_dec]
    by_cases h1 : 48 ≤ b <;> simp [isDigit, h1]
  · simp [Tr.val_no] at h
theorem ok93 (W0 : World) : EKOk Tryd.prog W0 93 (.pure S93) := by
  refine pure_of (tyOk 0 []) (look_ok all_nil) mixed fn93 (lpsOk_no _ _) fun args r h => ?_
  unfold S93 at h
  split at h
  · rename_i s
    refine (run93 0 s).trans ?_
    rw [← h]
    simp only [Tr.val_ok, Tr.val_cnd, cnd_dec]
    unfold markB
    repeat' split
    all_goals simp [*]
  · simp [Tr.val_no] at h
theorem ok73 (W0 : World) : EKOk Tryd.prog W0 73 (.pure S93) := by
  refine pure_of (tyOk 0 []) (look_ok all_nil) mixed fn73 (lpsOk_no _ _) fun args r h => ?_
  unfold S93 at h
  split at h
  · rename_i s
    refine (run73 0 s).trans ?_
    rw [← h]
    simp only [Tr.val_ok, Tr.val_cnd, cnd_dec]
    unfold markB
    repeat' split
    all_goals simp [*]
  · simp [Tr.val_no] at h
theorem ok107 (W0 : World) : EKOk Tryd.prog W0 107 (.pure S107) := by
  refine pure_of (tyOk 0 [(74, .pure S42)]) (look_ok (all_cons (ok74 W0) all_nil)) mixed fn107 (lpsOk_no _ _) fun args r h => ?_
  unfold S107 at h
  split at h
  · rename_i s p
    refine (run107 0 s p).trans ?_
    rw [← h]
    simp only [Tr.val_ok, Tr.val_cnd, Tr.val_chk]
    by_cases g : p.length ≤ s.length ∧ s.take p.length = p
    · rw [cnd_f (b := !decide (p.length ≤ s.length ∧ s.take p.length = p)) (by rw [decide_eq_true g]; rfl), cnd_p g, chk_p (by omega), chk_p (by omega)]
      simp
    · rw [cnd_t (b := !decide (p.length ≤ s.length ∧ s.take p.length = p)) (by rw [decide_eq_false g]; rfl), cnd_n g]
  · simp [Tr.val_no] at h
theorem ok38 (W0 : World) : EKOk Tryd.prog W0 38 (.eff (frameT S38)) := by
  refine eff_of (tyOk 0 []) (look_ok all_nil) mixed fn38 (lpsOk_no _ _) fun args H r h => ?_
  unfold S38 at h
  split at h
  · rename_i n vs a
    refine (run38 0 vs a n).trans ?_
    rw [← h]
    simp only [Tr.val_chk, chk_some, Bool.and_eq_true, decide_eq_true_eq] at h
    obtain ⟨⟨⟨⟨⟨⟨h0, h1⟩, h2⟩, h3⟩, h4⟩, h5⟩, _⟩ := h
    unfold big at h2 h5
    simp only [Tr.val_ok, Tr.val_cnd, Tr.val_chk]
    rw [chk_t (b := decide (0 ≤ n) && decide (n ≤ vs.length) && decide (vs.length ≤ big) && allB vs && decide (0 ≤ a) && decide (a ≤ big)) (by unfold big; simp only [Bool.and_eq_true, decide_eq_true_eq]; exact ⟨⟨⟨⟨⟨h0, h1⟩, h2⟩, h3⟩, h4⟩, h5⟩)]
    have e0 : List.drop (Int.toNat 0) (List.take n.toNat vs) = List.take n.toNat vs := rfl
    have e1 : List.take ((vs.length : Nat) : Int).toNat vs = vs := by simp
    have e2 : IntKind.i64.wrap (a + n) = a + n := wrap64 (by omega) (by omega)
    rw [e0, e1, e2, chk_p (p := True) trivial, chk_p (by simpa using h0), chk_p h1, chk_t (allB_U8 (allB_take _ h3)), chk_p h0, chk_p h1, chk_p (by omega), bytesOf_take _ h3]
  · simp [Tr.val_no] at h
end Go.PS
end

section
namespace Go.PS
open Go.Proofs
theorem loop65 (F : Nat) {R : Type} (vs : List DV) (a f : Int) (c : Bool) (K : Ex → St → Option R) (hb : allB vs = true) (hs : vs.length ≤ 1000000) :
    ∀ (m : Nat) (n : Int), 0 ≤ n → n ≤ vs.length → (vs.length - n).toNat < m →
      loopK (pcodeK (ctx F [(95, .pure S95)]) noL (lp Tryd.f65 0)) 1 (allBut 42 [0, 1, 2, 7] ++ temps (lp Tryd.f65 0)) (allBut 42 [0, 1, 2, 6, 7]) m
        ⟨slots 42 [(0, .ptr 0 0), (1, .d (.int .i64 f)), (2, .d (.bool c)), (7, .d (.int .i64 n))], [.cells [.d (.slc 1 vs), .d (.int .i64 a)]]⟩ K =
      PS.cnd (decide (runTo (bytesOf vs) c m n < vs.length))
        (K .ret ⟨slots 42 [(0, .ptr 0 0), (1, .d (.int .i64 f)), (2, .d (.bool c)), (6, .d (.int .i64 (runTo (bytesOf vs) c m n))), (7, .d (.int .i64 (runTo (bytesOf vs) c m n)))], [.cells [.d (.slc 1 vs), .d (.int .i64 a)]]⟩)
        (K (.exit 0) ⟨slots 42 [(0, .ptr 0 0), (1, .d (.int .i64 f)), (2, .d (.bool c)), (7, .d (.int .i64 (runTo (bytesOf vs) c m n)))], [.cells [.d (.slc 1 vs), .d (.int .i64 a)]]⟩) := by
  intro m
  induction m with
  | zero => intro n _ _ hm; omega
  | succ m ih =>
    intro n h0 h1 hm
    rw [loopK_succ, round65_0]
    have w : IntKind.i64.wrap (n + 1) = n + 1 := wrap64 (by omega) (by omega)
    have hl := bytesOf_length (allB_U8 hb)
    simp only [Tr.run, rnd, w]
    by_cases hk : n < vs.length
    · rw [cnd_p hk, chk_p h0, chk_p (by omega), chk_t (fits_byte hb h0 hk), atI_chr hb h0 hk]
      by_cases d : isDigit (chr (bytesOf vs) n) = true
      · rw [cnd_f (by simp [d]), ih _ (by omega) (by omega) (by omega)]
        have e : runTo (bytesOf vs) c (m + 1) n = runTo (bytesOf vs) c m (n + 1) := by
          simp only [runTo]; rw [if_pos ⟨by omega, Or.inl d⟩]
        rw [e]
      · rw [cnd_t (b := !isDigit (chr (bytesOf vs) n)) (by simpa using d)]
        cases hc : c with
        | false =>
          have e : runTo (bytesOf vs) false (m + 1) n = n := by
            simp only [runTo]; rw [if_neg (by rintro ⟨_, h | h⟩; exact d h; simp at h)]
          rw [e, cnd_p hk, cnd_ff]
        | true =>
          rw [cnd_tt]
          by_cases l : smallB (chr (bytesOf vs) n) = true
          · have e : runTo (bytesOf vs) true (m + 1) n = runTo (bytesOf vs) true m (n + 1) := by
              simp only [runTo]; rw [if_pos ⟨by omega, Or.inr ⟨by simp, l⟩⟩]
            have := ih (n + 1) (by omega) (by omega) (by omega)
            rw [hc] at this
            rw [cnd_f (by unfold smallB at l; rw [l]; rfl), this, e]
          · have e : runTo (bytesOf vs) true (m + 1) n = n := by
              simp only [runTo]; rw [if_neg (by rintro ⟨_, h | h⟩; exact d h; exact l h.2)]
            rw [e, cnd_p hk, cnd_t (by unfold smallB at l; rw [Bool.not_eq_true] at l; rw [l]; rfl)]
    · have e : runTo (bytesOf vs) c (m + 1) n = n := by
        simp only [runTo]; rw [if_neg (by rintro ⟨h, _⟩; omega)]
      rw [cnd_n hk, e, cnd_n hk]

theorem lps65 (F : Nat) (hF : F = FU) : LpsOk (ctx F [(95, .pure S95)]) L65 (loopsOf (body Tryd.f65)) := by
  refine lps_one (c := lp Tryd.f65 0) rfl (by kernel_rfl) fun R st K r h => ?_
  unfold T65 at h
  cases hs : shape 42 [0, 1, 2, 7] st.slots with
  | false => rw [hs] at h; simp [Tr.run] at h
  | true =>
  rw [hs] at h
  simp only [cond_true] at h
  have he := shape_eq hs
  obtain ⟨sl0, H⟩ := st
  dsimp only at h he ⊢
  split at h
  · rename_i f c n vs a g0 g1 g2 g7
    simp only [List.map_cons, List.map_nil, g0, g1, g2, g7] at he
    subst he
    simp only [Tr.run] at h
    cases hc : (decide (0 ≤ n) && decide (n ≤ vs.length) && decide (vs.length ≤ big) && allB vs) with
    | false => rw [hc] at h; simp at h
    | true =>
    rw [hc] at h
    simp only [Bool.and_eq_true, decide_eq_true_eq] at hc
    obtain ⟨⟨⟨h0, h1⟩, h2⟩, h3⟩ := hc
    unfold big at h2
    refine (loop65 F vs a f c K h3 h2 F n h0 h1 (by rw [hF]; unfold FU; omega)).trans ?_
    rw [← h, hF]
    rfl
  · simp [Tr.run] at h

theorem loop66 (F : Nat) {R : Type} (vs : List DV) (a : Int) (K : Ex → St → Option R) (hb : allB vs = true) (hs : vs.length ≤ 1000000) :
    ∀ (m : Nat) (n : Int), 0 ≤ n → n ≤ vs.length + 2 → (vs.length + 2 - n).toNat < m →
      loopK (pcodeK (ctx F []) noL (lp Tryd.f66 0)) 1 (allBut 33 [0, 3] ++ temps (lp Tryd.f66 0)) (allBut 33 [0, 2]) m
        ⟨slots 33 [(0, .ptr 0 0), (3, .d (.int .i64 n))], [.cells [.d (.slc 1 vs), .d (.int .i64 a)]]⟩ K =
      PS.cnd (closeB (bytesOf vs) m n)
        (K .ret ⟨slots 33 [(0, .ptr 0 0), (2, .d (.int .i64 (closeTo (bytesOf vs) m n)))], [.cells [.d (.slc 1 vs), .d (.int .i64 a)]]⟩)
        (K (.exit 0) ⟨slots 33 [(0, .ptr 0 0)], [.cells [.d (.slc 1 vs), .d (.int .i64 a)]]⟩) := by
  intro m
  induction m with
  | zero => intro n _ _ hm; omega
  | succ m ih =>
    intro n h0 h1 hm
    rw [loopK_succ, round66_0]
    have w : IntKind.i64.wrap (n + 1) = n + 1 := wrap64 (by omega) (by omega)
    have w2 : IntKind.i64.wrap (n + 1 + 1) = n + 2 := (wrap64 (x := n + 1 + 1) (by omega) (by omega)).trans (by omega)
    have hl := bytesOf_length (allB_U8 hb)
    simp only [Tr.run, rnd, w, w2, closeB, closeTo]
    by_cases hk : n < vs.length
    · have hk' : n < ((bytesOf vs).length : Int) := by omega
      simp only [if_pos hk']
      rw [cnd_p hk, chk_p h0, chk_p (by omega), chk_t (fits_byte hb h0 hk), atI_chr hb h0 hk]
      by_cases q : chr (bytesOf vs) n = 34
      · simp only [if_pos q]
        rw [cnd_p q, cnd_tt]
      · simp only [if_neg q]
        rw [cnd_n q]
        by_cases q2 : chr (bytesOf vs) n = 92
        · simp only [if_pos q2]
          rw [cnd_p q2]
          exact ih _ (by omega) (by omega) (by omega)
        · simp only [if_neg q2]
          rw [cnd_n q2]
          exact ih _ (by omega) (by omega) (by omega)
    · have hk' : ¬ n < ((bytesOf vs).length : Int) := by omega
      simp only [if_neg hk']
      rw [cnd_n hk, cnd_ff]

theorem lps66 (F : Nat) (hF : F = FU) : LpsOk (ctx F []) L66 (loopsOf (body Tryd.f66)) := by
  refine lps_one (c := lp Tryd.f66 0) rfl (by kernel_rfl) fun R st K r h => ?_
  unfold T66 at h
  cases hs : shape 33 [0, 3] st.slots with
  | false => rw [hs] at h; simp [Tr.run] at h
  | true =>
  rw [hs] at h
  simp only [cond_true] at h
  have he := shape_eq hs
  obtain ⟨sl0, H⟩ := st
  dsimp only at h he ⊢
  split at h
  · rename_i n vs a g0 g3
    simp only [List.map_cons, List.map_nil, g0, g3] at he
    subst he
    simp only [Tr.run] at h
    cases hc : (decide (0 ≤ n) && decide (n ≤ vs.length + 2) && decide (vs.length ≤ big) && allB vs) with
    | false => rw [hc] at h; simp at h
    | true =>
    rw [hc] at h
    simp only [Bool.and_eq_true, decide_eq_true_eq] at hc
    obtain ⟨⟨⟨h0, h1⟩, h2⟩, h3⟩ := hc
    unfold big at h2
    refine (loop66 F vs a K h3 h2 F n h0 h1 (by rw [hF]; unfold FU; omega)).trans ?_
    rw [← h, hF]
    rfl
  · simp [Tr.run] at h
end Go.PS
end

section
namespace Go.PS
open Go.Proofs
theorem ok65 (W0 : World) : EKOk Tryd.prog W0 65 (.eff (frameT S65)) := by
  refine eff_of (tyOk FU [(95, .pure S95)]) (look_ok (all_cons (ok95 W0) all_nil)) mixed fn65 (lps65 FU rfl) fun args H r h => ?_
  unfold S65 at h
  split at h
  · rename_i f c vs a
    refine (run65 FU vs a f c).trans ?_
    rw [← h]
    simp only [Tr.val_ok, Tr.val_cnd, Tr.val_chk]
    cases decide (runTo (bytesOf vs) c FU f < vs.length) <;> rfl
  · simp [Tr.val_no] at h
theorem ok66 (W0 : World) : EKOk Tryd.prog W0 66 (.eff (frameT S66)) := by
  refine eff_of (tyOk FU []) (look_ok all_nil) mixed fn66 (lps66 FU rfl) fun args H r h => ?_
  unfold S66 at h
  split at h
  · rename_i vs a
    refine (run66 FU vs a).trans ?_
    rw [← h]
    simp only [Tr.val_chk, chk_some, Bool.and_eq_true, decide_eq_true_eq] at h
    obtain ⟨⟨h0, h1⟩, _⟩ := h
    simp only [Tr.val_ok, Tr.val_cnd, Tr.val_chk]
    rw [chk_t (b := decide (vs.length ≤ big) && allB vs) (by simp [h0, h1]), chk_t (by simp [h0, h1]; omega)]
    cases hc : closeB (bytesOf vs) FU 1 with
    | true => rfl
    | false => rw [closeTo_end _ _ _ hc, bytesOf_length (allB_U8 h1)]; rfl
  · simp [Tr.val_no] at h

/-- the mark in front, of at most so many bytes -/
def marksF (s : List UInt8) (n : Int) : Int := if n = 2 ∧ markB (s.take 2) = true then 2 else if 1 ≤ n ∧ markB (s.take 1) = true then 1 else 0
def T67 (st : St) : Tr (Ex × St) :=
  bif shape 23 [0, 3] st.slots then
    match gt .undef st.slots 0, gt .undef st.slots 3, st.heap with
    | .ptr 0 0, .d (.int .i64 n), [.cells [.d (.slc 1 vs), .d (.int .i64 a)]] =>
      .chk (decide (0 ≤ n) && decide (n ≤ 2) && decide (n ≤ vs.length) && allB vs) (.cnd (decide (marksF (bytesOf vs) n = 0))
        (.ok (.exit 0, ⟨slots 23 [(0, .ptr 0 0)], [.cells [.d (.slc 1 vs), .d (.int .i64 a)]]⟩))
        (.ok (.ret, ⟨slots 23 [(0, .ptr 0 0), (2, .d (.int .i64 (marksF (bytesOf vs) n)))], [.cells [.d (.slc 1 vs), .d (.int .i64 a)]]⟩)))
    | _, _, _ => .no
  else .no
def L67 : Lps := fun i => bif Nat.beq i 2 then some (allBut 23 [0, 3], allBut 23 [0, 2], T67) else none

theorem marks_stop (F : Nat) {R : Type} (vs : List DV) (a : Int) (K : Ex → St → Option R) (m : Nat) :
      loopK (pcodeK (ctx F [(93, .pure S93)]) noL (lp Tryd.f67 0)) 1 (allBut 23 [0, 3] ++ temps (lp Tryd.f67 0)) (allBut 23 [0, 2]) (m + 1)
        ⟨slots 23 [(0, .ptr 0 0), (3, .d (.int .i64 0))], [.cells [.d (.slc 1 vs), .d (.int .i64 a)]]⟩ K =
      K (.exit 0) ⟨slots 23 [(0, .ptr 0 0)], [.cells [.d (.slc 1 vs), .d (.int .i64 a)]]⟩ := by
  rw [loopK_succ, round67_0]
  rfl
theorem marks_step (F : Nat) {R : Type} (vs : List DV) (a : Int) (K : Ex → St → Option R) (m : Nat) (n : Int) (h0 : 0 < n) (h2 : n ≤ 2) (h1 : n ≤ vs.length) (hb : allB vs = true) :
      loopK (pcodeK (ctx F [(93, .pure S93)]) noL (lp Tryd.f67 0)) 1 (allBut 23 [0, 3] ++ temps (lp Tryd.f67 0)) (allBut 23 [0, 2]) (m + 1)
        ⟨slots 23 [(0, .ptr 0 0), (3, .d (.int .i64 n))], [.cells [.d (.slc 1 vs), .d (.int .i64 a)]]⟩ K =
      PS.cnd (markB ((bytesOf vs).take n.toNat)) (K .ret ⟨slots 23 [(0, .ptr 0 0), (2, .d (.int .i64 n))], [.cells [.d (.slc 1 vs), .d (.int .i64 a)]]⟩)
       (loopK (pcodeK (ctx F [(93, .pure S93)]) noL (lp Tryd.f67 0)) 1 (allBut 23 [0, 3] ++ temps (lp Tryd.f67 0)) (allBut 23 [0, 2]) m
        ⟨slots 23 [(0, .ptr 0 0), (3, .d (.int .i64 (n - 1)))], [.cells [.d (.slc 1 vs), .d (.int .i64 a)]]⟩ K) := by
  rw [loopK_succ, round67_0]
  simp only [Tr.run, rnd]
  have e0 : List.drop (Int.toNat 0) (List.take n.toNat vs) = List.take n.toNat vs := rfl
  have w : IntKind.i64.wrap (n - 1) = n - 1 := wrap64 (by omega) (by omega)
  rw [cnd_p (by omega), chk_p (by omega), chk_p (by omega), e0, chk_t (allB_U8 (allB_take _ hb)), bytesOf_take _ hb, w]

theorem loop67 (F : Nat) {R : Type} (vs : List DV) (a : Int) (K : Ex → St → Option R) (hb : allB vs = true) (m : Nat) (n : Int) (h0 : 0 ≤ n) (h2 : n ≤ 2) (h1 : n ≤ vs.length) :
      loopK (pcodeK (ctx F [(93, .pure S93)]) noL (lp Tryd.f67 0)) 1 (allBut 23 [0, 3] ++ temps (lp Tryd.f67 0)) (allBut 23 [0, 2]) (m + 3)
        ⟨slots 23 [(0, .ptr 0 0), (3, .d (.int .i64 n))], [.cells [.d (.slc 1 vs), .d (.int .i64 a)]]⟩ K =
      PS.cnd (decide (marksF (bytesOf vs) n = 0)) (K (.exit 0) ⟨slots 23 [(0, .ptr 0 0)], [.cells [.d (.slc 1 vs), .d (.int .i64 a)]]⟩)
        (K .ret ⟨slots 23 [(0, .ptr 0 0), (2, .d (.int .i64 (marksF (bytesOf vs) n)))], [.cells [.d (.slc 1 vs), .d (.int .i64 a)]]⟩) := by
  have hn : n = 0 ∨ n = 1 ∨ n = 2 := by omega
  rcases hn with rfl | rfl | rfl
  · rw [marks_stop]; rfl
  · rw [marks_step F vs a K (m + 2) 1 (by omega) (by omega) h1 hb, show (1 : Int) - 1 = 0 from rfl, marks_stop]
    have e : marksF (bytesOf vs) 1 = if markB ((bytesOf vs).take 1) = true then 1 else 0 := by simp [marksF]
    rw [e, show (1 : Int).toNat = 1 from rfl]
    cases markB ((bytesOf vs).take 1) <;> rfl
  · rw [marks_step F vs a K (m + 2) 2 (by omega) (by omega) h1 hb, show (2 : Int) - 1 = 1 from rfl, marks_step F vs a K (m + 1) 1 (by omega) (by omega) (by omega) hb, show (1 : Int) - 1 = 0 from rfl, marks_stop]
    have e : marksF (bytesOf vs) 2 = if markB ((bytesOf vs).take 2) = true then 2 else if markB ((bytesOf vs).take 1) = true then 1 else 0 := by simp [marksF]
    rw [e, show (1 : Int).toNat = 1 from rfl, show (2 : Int).toNat = 2 from rfl]
    cases markB ((bytesOf vs).take 1) <;> cases markB ((bytesOf vs).take 2) <;> rfl

theorem lps67 (F : Nat) (hF : F = FU) : LpsOk (ctx F [(93, .pure S93)]) L67 (loopsOf (body Tryd.f67)) := by
  refine lps_one (c := lp Tryd.f67 0) rfl (by kernel_rfl) fun R st K r h => ?_
  unfold T67 at h
  cases hs : shape 23 [0, 3] st.slots with
  | false => rw [hs] at h; simp [Tr.run] at h
  | true =>
  rw [hs] at h
  simp only [cond_true] at h
  have he := shape_eq hs
  obtain ⟨sl0, H⟩ := st
  dsimp only at h he ⊢
  split at h
  · rename_i n vs a g0 g3
    simp only [List.map_cons, List.map_nil, g0, g3] at he
    subst he
    simp only [Tr.run] at h
    cases hc : (decide (0 ≤ n) && decide (n ≤ 2) && decide (n ≤ vs.length) && allB vs) with
    | false => rw [hc] at h; simp at h
    | true =>
    rw [hc] at h
    simp only [Bool.and_eq_true, decide_eq_true_eq] at hc
    obtain ⟨⟨⟨h0, h1⟩, h2⟩, h3⟩ := hc
    subst hF
    exact (loop67 FU vs a K h3 9999997 n h0 h1 h2).trans h
  · simp [Tr.run] at h

theorem ok96 (W0 : World) : EKOk Tryd.prog W0 96 (.pure S107) := by
  refine pure_of (tyOk 0 [(107, .pure S107)]) (look_ok (all_cons (ok107 W0) all_nil)) mixed fn96 (lpsOk_no _ _) fun args r h => ?_
  unfold S107 at h
  split at h
  · rename_i s p
    exact (run96 0 s p).trans h
  · simp [Tr.val_no] at h
end Go.PS
end

section
namespace Go.PS
open Go.Proofs
def T70 (st : St) : Tr (Ex × St) :=
  bif shape 29 [0, 1, 2] st.slots then
    match gt .undef st.slots 0, gt .undef st.slots 1, gt .undef st.slots 2, st.heap with
    | .d (.str s), .d (.int .i64 n), .d (.bool c), [] =>
      .chk (decide (0 ≤ n) && decide (n ≤ s.length) && decide (s.length ≤ big))
        (.ok (.exit 0, ⟨slots 29 [(0, .d (.str s)), (1, .d (.int .i64 (runTo s c FU n))), (2, .d (.bool c))], []⟩))
    | _, _, _, _ => .no
  else .no
def L70 : Lps := fun i => bif Nat.beq i 1 then some (allBut 29 [0, 1, 2], allBut 29 [0, 1, 2], T70) else none
def T72 (st : St) : Tr (Ex × St) :=
  bif shape 28 [0, 1, 5] st.slots then
    match gt .undef st.slots 0, gt .undef st.slots 1, gt .undef st.slots 5, st.heap with
    | .d (.str s), .d (.int .i64 a), .d (.int .i64 n), [] =>
      .chk (decide (0 ≤ n) && decide (n ≤ s.length + 2) && decide (s.length ≤ big)) (.cnd (closeB s FU n)
        (.ok (.ret, ⟨slots 28 [(0, .d (.str s)), (1, .d (.int .i64 a)), (4, .d (.int .i64 (closeTo s FU n)))], []⟩))
        (.ok (.exit 0, ⟨slots 28 [(0, .d (.str s)), (1, .d (.int .i64 a))], []⟩)))
    | _, _, _, _ => .no
  else .no
def L72 : Lps := fun i => bif Nat.beq i 2 then some (allBut 28 [0, 1, 5], allBut 28 [0, 1, 4], T72) else none
def S70 : List PV → Tr PV
  | [.d (.str s), .d (.int .i64 n), .d (.bool c)] => .chk (decide (0 ≤ n) && decide (n ≤ s.length) && decide (s.length ≤ big)) (.ok (.d (.int .i64 (runTo s c FU n))))
  | _ => .no
def S72 : List PV → Tr PV
  | [.d (.str s), .d (.int .i64 a)] => .chk (decide (0 ≤ a) && decide (a ≤ s.length) && decide (s.length ≤ big)) (.ok (.d (.int .i64 (closeTo s FU (a + 1)))))
  | _ => .no
def S40 : List PV → Tr PV
  | [.d (.str s), .d (.int .i64 a)] => .chk (decide (0 ≤ a) && decide (a < s.length) && decide (s.length ≤ big)) (.ok (.d (.int .i64 (a + pieceN (s.drop a.toNat)))))
  | _ => .no
end Go.PS
end

section
namespace Go.PS
open Go.Proofs
set_option maxRecDepth 100000
/-! (*fasti token.reader).marks -/
theorem fn67 : FnOk Tryd.prog 67 23 [.tmp 2] (body Tryd.f67) := ⟨Tryd.f67, Tryd.func67, bodySome _ (by kernel_rfl), by kernel_rfl, by kernel_rfl, by kernel_rfl, by kernel_rfl⟩
theorem run67 (F : Nat) (vs : List DV) (a : Int) : runE (ctx F [(93, .pure S93)]) L67 23 [.tmp 2] (body Tryd.f67) [.ptr 0 0] [.cells [.d (.slc 1 vs), .d (.int .i64 a)]] =
    Tr.val
      (.chk (decide (0 ≤ min 2 (↑vs.length : Int)) && decide (min 2 (↑vs.length : Int) ≤ 2) &&
          decide (min 2 (↑vs.length : Int) ≤ (↑vs.length : Int)) &&
        allB vs)
      (.cnd (decide (marksF (bytesOf vs) (min 2 (↑vs.length : Int)) = 0))
        (.ok ((Out.ret (PV.d (DV.int IntKind.i64 (0))), [PObj.cells [PV.d (DV.slc 1 vs), PV.d (DV.int IntKind.i64 a)]])))
        (.ok ((Out.ret (PV.d (DV.int IntKind.i64 (marksF (bytesOf vs) (min 2 (↑vs.length : Int))))),
        [PObj.cells [PV.d (DV.slc 1 vs), PV.d (DV.int IntKind.i64 a)]]))))) := by kernel_rfl
/-! fasti fastiref16.run -/
theorem fn70 : FnOk Tryd.prog 70 29 [.tmp 6] (body Tryd.f70) := ⟨Tryd.f70, Tryd.func70, bodySome _ (by kernel_rfl), by kernel_rfl, by kernel_rfl, by kernel_rfl, by kernel_rfl⟩
theorem run70 (F : Nat) (s : List UInt8) (n : Int) (c : Bool) : runP (ctx F [(69, .pure S69), (71, .pure S71)]) L70 29 [.tmp 6] (body Tryd.f70) [.d (.str s), .d (.int .i64 n), .d (.bool c)] =
    Tr.val
      (.chk (decide (0 ≤ n) && decide (n ≤ (↑s.length : Int)) && decide (s.length ≤ big))
      (.ok (PV.d (DV.int IntKind.i64 (runTo s c FU n))))) := by kernel_rfl
/-! fasti fastiref16.closed -/
theorem fn72 : FnOk Tryd.prog 72 28 [.tmp 4] (body Tryd.f72) := ⟨Tryd.f72, Tryd.func72, bodySome _ (by kernel_rfl), by kernel_rfl, by kernel_rfl, by kernel_rfl, by kernel_rfl⟩
theorem run72 (F : Nat) (s : List UInt8) (a : Int) : runP (ctx F []) L72 28 [.tmp 4] (body Tryd.f72) [.d (.str s), .d (.int .i64 a)] =
    Tr.val
      (.chk (decide (0 ≤ IntKind.i64.wrap (a + 1)) && decide (IntKind.i64.wrap (a + 1) ≤ (↑s.length : Int) + 2) &&
        decide (s.length ≤ big))
      (.cnd (closeB s FU (IntKind.i64.wrap (a + 1)))
        (.ok (PV.d (DV.int IntKind.i64 (closeTo s FU (IntKind.i64.wrap (a + 1))))))
        (.ok (PV.d (DV.int IntKind.i64 (↑s.length : Int)))))) := by kernel_rfl
/-! fasti fastiref16.piece -/
theorem fn40 : FnOk Tryd.prog 40 58 [.tmp 4] (body Tryd.f40) := ⟨Tryd.f40, Tryd.func40, bodySome _ (by kernel_rfl), by kernel_rfl, by kernel_rfl, by kernel_rfl, by kernel_rfl⟩
theorem run40 (F : Nat) (s : List UInt8) (a : Int) : runP (ctx F [(69, .pure S69), (70, .pure S70), (71, .pure S71), (72, .pure S72), (73, .pure S93)]) noL 58 [.tmp 4] (body Tryd.f40) [.d (.str s), .d (.int .i64 a)] =
    Tr.val
      (.chk (decide (0 ≤ a))
      (.chk (decide (a.toNat < s.length))
      (.cnd (smallB (↑(s.getD a.toNat 0).toNat : Int))
        (.chk (decide (0 ≤ a) && decide (a ≤ (↑s.length : Int)) && decide (s.length ≤ big))
        (.ok (PV.d (DV.int IntKind.i64 (runTo s true FU a)))))
        (.cnd (isDigit (↑(s.getD a.toNat 0).toNat : Int))
          (.chk (decide (0 ≤ IntKind.i64.wrap (a + 1)) && decide (IntKind.i64.wrap (a + 1) ≤ (↑s.length : Int)) &&
        decide (s.length ≤ big))
          (.ok (PV.d (DV.int IntKind.i64 (runTo s false FU (IntKind.i64.wrap (a + 1)))))))
          (.cnd (decide ((↑(s.getD a.toNat 0).toNat : Int) = 45))
            (.chk (decide (0 ≤ IntKind.i64.wrap (a + 1)) && decide (IntKind.i64.wrap (a + 1) ≤ (↑s.length : Int)) &&
        decide (s.length ≤ big))
            (.ok (PV.d (DV.int IntKind.i64 (runTo s false FU (IntKind.i64.wrap (a + 1)))))))
            (.cnd (decide ((↑(s.getD a.toNat 0).toNat : Int) = 35))
              (.chk (decide (0 ≤ IntKind.i64.wrap (a + 1)) && decide (IntKind.i64.wrap (a + 1) ≤ (↑s.length : Int)) &&
        decide (s.length ≤ big))
              (.ok (PV.d (DV.int IntKind.i64 (runTo s false FU (IntKind.i64.wrap (a + 1)))))))
              (.cnd (decide ((↑(s.getD a.toNat 0).toNat : Int) = 34))
                (.chk (decide (0 ≤ a) && decide (a ≤ (↑s.length : Int)) && decide (s.length ≤ big))
                (.ok (PV.d (DV.int IntKind.i64 (closeTo s FU (a + 1))))))
                (.cnd (decide (IntKind.i64.wrap (a + 1) < (↑s.length : Int)))
                  (.chk (decide (0 ≤ a))
                  (.chk (decide (a ≤ IntKind.i64.wrap (a + 2)))
                  (.chk (decide (IntKind.i64.wrap (a + 2) ≤ (↑s.length : Int)))
                  (.cnd (markB (List.drop a.toNat (List.take (IntKind.i64.wrap (a + 2)).toNat s)))
                    (.ok (PV.d (DV.int IntKind.i64 (IntKind.i64.wrap (a + 2)))))
                    (.chk (decide (0 ≤ a))
                    (.chk (decide (a ≤ IntKind.i64.wrap (a + 1)))
                    (.chk (decide (IntKind.i64.wrap (a + 1) ≤ (↑s.length : Int)))
                    (.cnd (markB (List.drop a.toNat (List.take (IntKind.i64.wrap (a + 1)).toNat s)))
                      (.ok (PV.d (DV.int IntKind.i64 (IntKind.i64.wrap (a + 1)))))
                      (.ok (PV.d (DV.int IntKind.i64 a)))))))))))
                  (.chk (decide (0 ≤ a))
                  (.chk (decide (a ≤ IntKind.i64.wrap (a + 1)))
                  (.chk (decide (IntKind.i64.wrap (a + 1) ≤ (↑s.length : Int)))
                  (.cnd (markB (List.drop a.toNat (List.take (IntKind.i64.wrap (a + 1)).toNat s)))
                    (.ok (PV.d (DV.int IntKind.i64 (IntKind.i64.wrap (a + 1)))))
                    (.ok (PV.d (DV.int IntKind.i64 a))))))))))))))) := by kernel_rfl
end Go.PS
end

section
namespace Go.PS
open Go.Proofs

theorem cnd_if {R : Type} (b : Bool) (x y : Option R) : PS.cnd b x y = if b = true then x else y := by cases b <;> rfl
theorem chk_if {R : Type} (b : Bool) (x : Option R) : PS.chk b x = if b = true then x else none := by cases b <;> rfl
theorem chr_drop (s : List UInt8) (k : Nat) (i : Int) (h : 0 ≤ i) : chr (s.drop k) i = chr s (k + i) := by
  rw [← chr_def, ← chr_def, show ((k : Int) + i).toNat = k + i.toNat by omega]
  simp [List.getD_eq_getElem?_getD, List.getElem?_drop]
theorem runTo_drop (s : List UInt8) (k : Nat) (hk : k ≤ s.length) (c : Bool) : ∀ (m : Nat) (i : Int), 0 ≤ i → runTo (s.drop k) c m i = runTo s c m (k + i) - k := by
  intro m
  induction m with
  | zero => intro i _; simp only [runTo]; omega
  | succ m ih =>
    intro i h
    simp only [runTo, chr_drop s k i h, List.length_drop]
    have := ih (i + 1) (by omega)
    have e : (k : Int) + (i + 1) = k + i + 1 := by omega
    rw [e] at this
    grind
theorem closeTo_drop (s : List UInt8) (k : Nat) (hk : k ≤ s.length) : ∀ (m : Nat) (i : Int), 0 ≤ i → closeTo (s.drop k) m i = closeTo s m (k + i) - k := by
  intro m
  induction m with
  | zero => intro i _; simp only [closeTo, List.length_drop]; omega
  | succ m ih =>
    intro i h
    simp only [closeTo, chr_drop s k i h, List.length_drop]
    have h1 := ih (i + 1) (by omega)
    have h2 := ih (i + 2) (by omega)
    have e : (k : Int) + (i + 1) = k + i + 1 := by omega
    have e2 : (k : Int) + (i + 2) = k + i + 2 := by omega
    rw [e] at h1
    rw [e2] at h2
    grind

theorem runTo_range (s : List UInt8) (c : Bool) : ∀ (m : Nat) (i : Int), i ≤ s.length → i ≤ runTo s c m i ∧ runTo s c m i ≤ s.length := by
  intro m
  induction m with
  | zero => intro i h; exact ⟨Int.le_refl _, h⟩
  | succ m ih => intro i h; simp only [runTo]; grind
theorem closeTo_range (s : List UInt8) : ∀ (m : Nat) (i : Int), 0 ≤ i → 1 ≤ s.length → 1 ≤ closeTo s m i ∧ closeTo s m i ≤ s.length := by
  intro m
  induction m with
  | zero => intro i h h1; simp only [closeTo]; omega
  | succ m ih => intro i h h1; simp only [closeTo]; grind
theorem pieceN_range (s : List UInt8) (h : 1 ≤ s.length) : 0 ≤ pieceN s ∧ pieceN s ≤ s.length := by
  have a1 := runTo_range s true FU 0 (by omega)
  have a2 := runTo_range s false FU 1 (by omega)
  have a3 := closeTo_range s FU 1 (by omega) h
  have a4 : markB (s.take 1) = true → 1 ≤ s.length := fun _ => h
  unfold pieceN
  grind
theorem ok67 (W0 : World) : EKOk Tryd.prog W0 67 (.eff (frameT S67)) := by
  refine eff_of (tyOk FU [(93, .pure S93)]) (look_ok (all_cons (ok93 W0) all_nil)) mixed fn67 (lps67 FU rfl) fun args H r h => ?_
  unfold S67 at h
  split at h
  · rename_i vs a
    refine (run67 FU vs a).trans ?_
    rw [← h]
    simp only [Tr.val_chk, chk_some, Bool.and_eq_true, decide_eq_true_eq] at h
    obtain ⟨⟨h0, h1⟩, _⟩ := h
    have hl := bytesOf_length (allB_U8 h1)
    have e : marksF (bytesOf vs) (min 2 (vs.length : Int)) = marksN (bytesOf vs) := by
      unfold marksF marksN
      have : vs.length = 0 → markB ((bytesOf vs).take 1) = false := by
        intro h; have : bytesOf vs = [] := List.eq_nil_of_length_eq_zero (by omega)
        rw [this]; rfl
      grind
    simp only [Tr.val_ok, Tr.val_cnd, Tr.val_chk, e, cnd_dec, PS.chk]
    grind
  · simp [Tr.val_no] at h
end Go.PS
#print axioms Go.PS.ok67
end
