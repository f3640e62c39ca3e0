/- A part of the proof of the claim (the pure semantics PS and the contracts of the functions over it). -/
import Derived.Test.YtihpkebhgkfiaaaDoorPlacesB
import Derived.Test.YtihpkebhgkfiaaaDoorPsE
import Derived.Lib.MapLaws
set_option linter.all false
section
namespace Go.PS
open Go.Proofs
theorem cnd_i {R : Type} (b : Bool) (x y : Option R) : PS.cnd b x y = if b = true then x else y := by cases b <;> rfl
theorem chk_i {R : Type} (b : Bool) (x : Option R) : PS.chk b x = if b = true then x else none := by cases b <;> rfl
theorem udec (s : List UInt8) (k : Nat) : Utf8.decode ⟨s.toArray⟩ k = dec s k := by
  rw [Lib.decode_at]
  simp only [get_bang]
  unfold dec byt
  have hs : (⟨s.toArray⟩ : ByteArray).size = s.length := by show s.toArray.size = _; simp
  rw [hs]
theorem runeN_drop (s : List UInt8) (k : Nat) (h : k < s.length) : runeN (s.drop k) = ((dec s k).2 : Int) := by
  unfold runeN
  rw [dec_drop s k h]
def hexDig (n : Int) : UInt8 := ([48, 49, 50, 51, 52, 53, 54, 55, 56, 57, 97, 98, 99, 100, 101, 102] : List UInt8).getD n.toNat 0
def enc (r : Int) : List UInt8 := (Utf8.encode r).data.toList
/-- a rune as it is written -/
def writ (r : Int) : List UInt8 :=
  if r = 34 ∨ r = 92 then 92 :: enc r
  else if r = 10 then [92, 110]
  else if r < 32 ∨ r = 127 then [92, 120, hexDig (r / 16), hexDig (r % 16)]
  else enc r
def S60 : List PV → List PObj → Tr (Out × List PObj)
  | [.d (.int .i64 _), .d (.int .i32 _), .ptr 0 0], [.cells [.d (.int .i64 n)]] => .chk (decide (0 ≤ n) && decide (n ≤ big)) (.ok (.ret (.tup []), [.cells [.d (.int .i64 (n + 1))]]))
  | _, _ => .no
def S55 : List PV → Tr PV
  | [.d (.int .i32 r)] => .chk (decide (0 ≤ r)) (.ok (.d (.str (writ r))))
  | _ => .no
def S54 : List PV → List PObj → Tr (Out × List PObj)
  | [.d (.int .i64 _), .d (.int .i32 r), .ptr 0 0], [.cells [.own 1 l]] => .chk (decide (0 ≤ r) && decide (l.length ≤ big)) (.ok (.ret (.tup []), [.cells [.own 1 (l ++ [.str (writ r)])]]))
  | _, _ => .no
/-- a text's runes: do all stand, the place behind them, and they -/
def eachR (s : List UInt8) : Nat → Nat → Bool × Nat × List Int
  | 0, k => (true, k, [])
  | m + 1, k => if k < s.length then (if width s k = 0 then (false, k, []) else ((eachR s m (k + (dec s k).2)).1, (eachR s m (k + (dec s k).2)).2.1, ((dec s k).1 : Int) :: (eachR s m (k + (dec s k).2)).2.2)) else (true, k, [])
def okR (s : List UInt8) : Bool := (eachR s FU 0).1
def atR (s : List UInt8) : Nat := (eachR s FU 0).2.1
def runesR (s : List UInt8) : List Int := (eachR s FU 0).2.2
def writs (l : List Int) : List DV := l.map fun r => .str (writ r)
def T84 (st : St) : Tr (Ex × St) :=
  bif shape 32 [0, 1, 9] st.slots then
    match gt .undef st.slots 0, gt .undef st.slots 1, gt .undef st.slots 9, st.heap with
    | .d (.str s), .func 60 [.ptr 0 0], .ptr 1 0, [.cells [.d (.int .i64 n)], .iter s' pos] =>
      .chk (decide (s' = s) && decide (pos ≤ s.length) && decide (s.length ≤ big) && decide (0 ≤ n) && decide (n ≤ pos)) (.cnd (eachR s FU pos).1
        (.ok (.exit 0, ⟨slots 32 [(0, .d (.str s))], [.cells [.d (.int .i64 (n + (eachR s FU pos).2.2.length))], .iter s (eachR s FU pos).2.1]⟩))
        (.ok (.pan (.iface 108 (.agg [.int .i64 (eachR s FU pos).2.1])), ⟨slots 0 [], [.cells [.d (.int .i64 (n + (eachR s FU pos).2.2.length))], .iter s ((eachR s FU pos).2.1 + 1)]⟩)))
    | .d (.str s), .func 54 [.ptr 0 0], .ptr 1 0, [.cells [.own 1 l], .iter s' pos] =>
      .chk (decide (s' = s) && decide (pos ≤ s.length) && decide (s.length + 1 ≤ big) && decide (l.length ≤ pos + 1)) (.cnd (eachR s FU pos).1
        (.ok (.exit 0, ⟨slots 32 [(0, .d (.str s))], [.cells [.own 1 (l ++ writs (eachR s FU pos).2.2)], .iter s (eachR s FU pos).2.1]⟩))
        (.ok (.pan (.iface 108 (.agg [.int .i64 (eachR s FU pos).2.1])), ⟨slots 0 [], [.cells [.own 1 (l ++ writs (eachR s FU pos).2.2)], .iter s ((eachR s FU pos).2.1 + 1)]⟩)))
    | _, _, _, _ => .no
  else .no
def L84 : Lps := fun i => bif Nat.beq i 1 then some (allBut 32 [0, 1, 9], allBut 32 [0], T84) else none
def S84 : List PV → List PObj → Tr (Out × List PObj)
  | [.d (.str s), .func 60 [.ptr 0 0]], [.cells [.d (.int .i64 n)]] =>
    .chk (decide (s.length ≤ big) && decide (n = 0)) (.cnd (okR s)
      (.ok (.ret (.tup []), [.cells [.d (.int .i64 (runesR s).length)]]))
      (.ok (.pan (.iface 108 (.agg [.int .i64 (atR s)])), [.cells [.d (.int .i64 (runesR s).length)]])))
  | [.d (.str s), .func 54 [.ptr 0 0]], [.cells [.own 1 l]] =>
    .chk (decide (s.length + 1 ≤ big) && decide (l.length ≤ 1)) (.cnd (okR s)
      (.ok (.ret (.tup []), [.cells [.own 1 (l ++ writs (runesR s))]]))
      (.ok (.pan (.iface 108 (.agg [.int .i64 (atR s)])), [.cells [.own 1 (l ++ writs (runesR s))]])))
  | _, _ => .no
def S83 : SD := fun md args H =>
  match md, args, H with
  | none, [.ptr 0 0], [.cells [.d (.bool b)]] => some (false, [.cells [.d (.bool b)]])
  | some (.iface 108 (.agg [.int .i64 _])), [.ptr 0 0], [.cells [.d (.bool _)]] => some (true, [.cells [.d (.bool false)]])
  | _, _, _ => none
def S53 : List PV → List PObj → Tr (Out × List PObj)
  | [.d (.str s), .func 60 [.ptr 0 0]], [.cells [.d (.int .i64 n)]] =>
    .chk (decide (s.length ≤ big) && decide (n = 0)) (.ok (.ret (.d (.bool (okR s))), [.cells [.d (.int .i64 (runesR s).length)]]))
  | [.d (.str s), .func 54 [.ptr 0 0]], [.cells [.own 1 l]] =>
    .chk (decide (s.length + 1 ≤ big) && decide (l.length ≤ 1)) (.ok (.ret (.d (.bool (okR s))), [.cells [.own 1 (l ++ writs (runesR s))]]))
  | _, _ => .no
/-- how many runes a text has; below 0: not all stand -/
def runesN (s : List UInt8) : Int := if okR s = true then ((runesR s).length : Int) else -1
def S28 : List PV → Tr PV
  | [.d (.str s)] => .chk (decide (s.length ≤ big)) (.ok (.d (.int .i64 (runesN s))))
  | _ => .no
/-- a text as it is written -/
def quoteR (s : List UInt8) : List UInt8 := 34 :: ((runesR s).map writ).flatten ++ [34]
def S23 : List PV → Tr PV
  | [.d (.str s)] => .chk (decide (s.length + 2 ≤ big)) (.cnd (okR s) (.ok (.tup [.d (.str (quoteR s)), .d (.int .i64 0)])) (.ok (.tup [.d (.str []), .d (.int .i64 2)])))
  | _ => .no
/-- is a value right -/
def rightR (k n : Int) (s : List UInt8) : Bool := (decide (k = 1) && decide (s = [])) || (decide (k = 2) && decide (n = 0) && decide (s.length ≤ 40) && okR s)
def S21 : List PV → Tr PV
  | [.d (.agg [.int .i64 k, .int .i64 n, .str s])] => .chk (decide (s.length ≤ big)) (.cnd (rightR k n s) (.ok (.d (.int .i64 0))) (.ok (.d (.int .i64 2))))
  | _ => .no
def S20 : List PV → Tr PV
  | [.d (.agg [.int .i64 k, .int .i64 n, .str s])] => .chk (decide (s.length ≤ big) && decide (-9223372036854775808 ≤ n) && decide (n ≤ 9223372036854775807)) (.cnd (rightR k n s)
      (.cnd (decide (k = 1)) (.ok (.tup [.d (.str (Lib.itoa n)), .d (.int .i64 0)])) (.ok (.tup [.d (.str (quoteR s)), .d (.int .i64 0)])))
      (.ok (.tup [.d (.str []), .d (.int .i64 2)])))
  | _ => .no
/-! strings.Join -/
def allStr : List DV → Bool
  | [] => true
  | .str _ :: l => allStr l
  | _ => false
def strsOf : List DV → List (List UInt8)
  | [] => []
  | .str s :: l => s :: strsOf l
  | _ :: l => strsOf l
def S56 : List PV → Tr PV
  | [.d (.slc 1 l), .d (.str p)] => .chk (allStr l && decide (l.length ≤ 140737488355328) && decide ((Lib.join (strsOf l) p).length ≤ 140737488355328)) (.ok (.d (.str (Lib.join (strsOf l) p))))
  | _ => .no
end Go.PS
end

section
namespace Go.PS
open Go.Proofs
set_option maxRecDepth 100000
/-! fasti value.Runes 1 -/
theorem fn60 : FnOk Tryd.prog 60 7 [] (body Tryd.f60) := ⟨Tryd.f60, Tryd.func60, bodySome _ (by kernel_rfl), by kernel_rfl, by kernel_rfl, by kernel_rfl, by kernel_rfl⟩
theorem run60 (F : Nat) (a r n : Int) : runE (ctx F []) noL 7 [] (body Tryd.f60) [.d (.int .i64 a), .d (.int .i32 r), .ptr 0 0] [.cells [.d (.int .i64 n)]] =
    Tr.val
      (.ok ((Out.ret (PV.tup []), [PObj.cells [PV.d (DV.int IntKind.i64 (IntKind.i64.wrap (n + 1)))]]))) := by kernel_rfl
/-! fasti value.written -/
theorem fn55 : FnOk Tryd.prog 55 35 [.tmp 2] (body Tryd.f55) := ⟨Tryd.f55, Tryd.func55, bodySome _ (by kernel_rfl), by kernel_rfl, by kernel_rfl, by kernel_rfl, by kernel_rfl⟩
theorem run55 (F : Nat) (r : Int) : runP (ctx F []) noL 35 [.tmp 2] (body Tryd.f55) [.d (.int .i32 r)] =
    Tr.val
      (.cnd (decide (r = 34))
        (.chk (decide (([92] : List UInt8).length + (Utf8.encode r).data.toList.length ≤ 9223372036854775807))
        (.ok (PV.d (DV.str (([92] : List UInt8) ++ (Utf8.encode r).data.toList)))))
        (.cnd (decide (r = 92))
          (.chk (decide (([92] : List UInt8).length + (Utf8.encode r).data.toList.length ≤ 9223372036854775807))
          (.ok (PV.d (DV.str (([92] : List UInt8) ++ (Utf8.encode r).data.toList)))))
          (.cnd (decide (r = 10))
            (.ok (PV.d (DV.str ([92, 110] : List UInt8))))
            (.cnd (decide (r < 32))
              (.chk (decide (0 ≤ r.fdiv (2 ^ min (Int.toNat 4) IntKind.i32.bits)))
              (.chk (decide
        ((r.fdiv (2 ^ min (Int.toNat 4) IntKind.i32.bits)).toNat <
          ([48, 49, 50, 51, 52, 53, 54, 55, 56, 57, 97, 98, 99, 100, 101, 102] : List UInt8).length))
              (.chk (decide
        (([92, 120] : List UInt8).length +
            (Utf8.encode
                    (↑(([48, 49, 50, 51, 52, 53, 54, 55, 56, 57, 97, 98, 99, 100, 101, 102] : List UInt8).getD
                            (r.fdiv (2 ^ min (Int.toNat 4) IntKind.i32.bits)).toNat 0).toNat :
                      Int)).data.toList.length ≤
          9223372036854775807))
              (.chk (decide (0 ≤ IntKind.i32.wrap (↑(BitVec.ofInt IntKind.i32.bits r &&& BitVec.ofInt IntKind.i32.bits 15).toNat : Int)))
              (.chk (decide
        ((IntKind.i32.wrap (↑(BitVec.ofInt IntKind.i32.bits r &&& BitVec.ofInt IntKind.i32.bits 15).toNat : Int)).toNat <
          ([48, 49, 50, 51, 52, 53, 54, 55, 56, 57, 97, 98, 99, 100, 101, 102] : List UInt8).length))
              (.chk (decide
        ((([92, 120] : List UInt8) ++
                (Utf8.encode
                      (↑(([48, 49, 50, 51, 52, 53, 54, 55, 56, 57, 97, 98, 99, 100, 101, 102] : List UInt8).getD
                              (r.fdiv (2 ^ min (Int.toNat 4) IntKind.i32.bits)).toNat 0).toNat :
                        Int)).data.toList).length +
            (Utf8.encode
                    (↑(([48, 49, 50, 51, 52, 53, 54, 55, 56, 57, 97, 98, 99, 100, 101, 102] : List UInt8).getD
                            (IntKind.i32.wrap
                                (↑(BitVec.ofInt IntKind.i32.bits r &&& BitVec.ofInt IntKind.i32.bits 15).toNat : Int)).toNat
                            0).toNat :
                      Int)).data.toList.length ≤
          9223372036854775807))
              (.ok (PV.d
        (DV.str
          (([92, 120] : List UInt8) ++
              (Utf8.encode
                    (↑(([48, 49, 50, 51, 52, 53, 54, 55, 56, 57, 97, 98, 99, 100, 101, 102] : List UInt8).getD
                            (r.fdiv (2 ^ min (Int.toNat 4) IntKind.i32.bits)).toNat 0).toNat :
                      Int)).data.toList ++
            (Utf8.encode
                  (↑(([48, 49, 50, 51, 52, 53, 54, 55, 56, 57, 97, 98, 99, 100, 101, 102] : List UInt8).getD
                          (IntKind.i32.wrap
                              (↑(BitVec.ofInt IntKind.i32.bits r &&& BitVec.ofInt IntKind.i32.bits 15).toNat : Int)).toNat
                          0).toNat :
                    Int)).data.toList))))))))))
              (.cnd (decide (r = 127))
                (.chk (decide (0 ≤ r.fdiv (2 ^ min (Int.toNat 4) IntKind.i32.bits)))
                (.chk (decide
        ((r.fdiv (2 ^ min (Int.toNat 4) IntKind.i32.bits)).toNat <
          ([48, 49, 50, 51, 52, 53, 54, 55, 56, 57, 97, 98, 99, 100, 101, 102] : List UInt8).length))
                (.chk (decide
        (([92, 120] : List UInt8).length +
            (Utf8.encode
                    (↑(([48, 49, 50, 51, 52, 53, 54, 55, 56, 57, 97, 98, 99, 100, 101, 102] : List UInt8).getD
                            (r.fdiv (2 ^ min (Int.toNat 4) IntKind.i32.bits)).toNat 0).toNat :
                      Int)).data.toList.length ≤
          9223372036854775807))
                (.chk (decide (0 ≤ IntKind.i32.wrap (↑(BitVec.ofInt IntKind.i32.bits r &&& BitVec.ofInt IntKind.i32.bits 15).toNat : Int)))
                (.chk (decide
        ((IntKind.i32.wrap (↑(BitVec.ofInt IntKind.i32.bits r &&& BitVec.ofInt IntKind.i32.bits 15).toNat : Int)).toNat <
          ([48, 49, 50, 51, 52, 53, 54, 55, 56, 57, 97, 98, 99, 100, 101, 102] : List UInt8).length))
                (.chk (decide
        ((([92, 120] : List UInt8) ++
                (Utf8.encode
                      (↑(([48, 49, 50, 51, 52, 53, 54, 55, 56, 57, 97, 98, 99, 100, 101, 102] : List UInt8).getD
                              (r.fdiv (2 ^ min (Int.toNat 4) IntKind.i32.bits)).toNat 0).toNat :
                        Int)).data.toList).length +
            (Utf8.encode
                    (↑(([48, 49, 50, 51, 52, 53, 54, 55, 56, 57, 97, 98, 99, 100, 101, 102] : List UInt8).getD
                            (IntKind.i32.wrap
                                (↑(BitVec.ofInt IntKind.i32.bits r &&& BitVec.ofInt IntKind.i32.bits 15).toNat : Int)).toNat
                            0).toNat :
                      Int)).data.toList.length ≤
          9223372036854775807))
                (.ok (PV.d
        (DV.str
          (([92, 120] : List UInt8) ++
              (Utf8.encode
                    (↑(([48, 49, 50, 51, 52, 53, 54, 55, 56, 57, 97, 98, 99, 100, 101, 102] : List UInt8).getD
                            (r.fdiv (2 ^ min (Int.toNat 4) IntKind.i32.bits)).toNat 0).toNat :
                      Int)).data.toList ++
            (Utf8.encode
                  (↑(([48, 49, 50, 51, 52, 53, 54, 55, 56, 57, 97, 98, 99, 100, 101, 102] : List UInt8).getD
                          (IntKind.i32.wrap
                              (↑(BitVec.ofInt IntKind.i32.bits r &&& BitVec.ofInt IntKind.i32.bits 15).toNat : Int)).toNat
                          0).toNat :
                    Int)).data.toList))))))))))
                (.ok (PV.d (DV.str (Utf8.encode r).data.toList)))))))) := by kernel_rfl
/-! fasti value.Quote 1 -/
theorem fn54 : FnOk Tryd.prog 54 10 [] (body Tryd.f54) := ⟨Tryd.f54, Tryd.func54, bodySome _ (by kernel_rfl), by kernel_rfl, by kernel_rfl, by kernel_rfl, by kernel_rfl⟩
theorem run54 (F : Nat) (a r : Int) (l : List DV) : runE (ctx F [(55, .pure S55)]) noL 10 [] (body Tryd.f54) [.d (.int .i64 a), .d (.int .i32 r), .ptr 0 0] [.cells [.own 1 l]] =
    Tr.val
      (.chk (decide (0 ≤ r))
      (.chk (limit 16
        (l.length + (fillS (rep 1 (zeroDV ((ctx F [(55, EK.pure S55)]).ty 9))) [(0, DV.str (writ r))]).length))
      (.ok ((Out.ret (PV.tup []), [PObj.cells [PV.own 1 (l ++ [DV.str (writ r)])]]))))) := by kernel_rfl
/-! fasti value.through 1 -/
theorem rc83 : RcOk Tryd.prog 83 10 2 1 (body Tryd.f83) := ⟨⟨Tryd.f83, Tryd.func83, bodySome _ (by kernel_rfl), by kernel_rfl, by kernel_rfl, by kernel_rfl⟩, by kernel_rfl, by kernel_rfl, by kernel_rfl, by kernel_rfl, by kernel_rfl, by kernel_rfl, by kernel_rfl, of_decide_eq_true (by kernel_rfl)⟩
theorem run83 (F : Nat) (b : Bool) : runR (ctx F []) noL 10 2 1 (tlS (body Tryd.f83)) none [.ptr 0 0] [.cells [.d (.bool b)]] =
    Tr.val
      (.ok ((false, [PObj.cells [PV.d (DV.bool b)]]))) := by kernel_rfl
theorem run83_2 (F : Nat) (b : Bool) (n : Int) : runR (ctx F []) noL 10 2 1 (tlS (body Tryd.f83)) (some (.iface 108 (.agg [.int .i64 n]))) [.ptr 0 0] [.cells [.d (.bool b)]] =
    Tr.val
      (.ok (((some (DV.iface 108 (DV.agg [DV.int IntKind.i64 n]))).isSome, [PObj.cells [PV.d (DV.bool false)]]))) := by kernel_rfl
theorem round84_0a (F : Nat) {R : Type} (s : List UInt8) (pos : Nat) (n : Int) (K : Ex → St → Option R) (G : St → Option R) : roundK (pcodeK (ctx F [(54, .eff (frameT S54)), (60, .eff (frameT S60)), (75, .pure S75)]) noL (lp Tryd.f84 0)) 2 (allBut 32 [0, 1, 9] ++ temps (lp Tryd.f84 0)) (allBut 32 [0]) ⟨slots 32 [(0, .d (.str s)), (1, .func 60 [.ptr 0 0]), (9, .ptr 1 0)], [.cells [.d (.int .i64 n)], .iter s pos]⟩ K G =
    Tr.run
      (.cnd (decide (pos < s.length))
        (.cnd (decide ((↑(Utf8.decode { data := s.toArray } pos).fst : Int) = 65533))
          (.chk (decide ((↑pos : Int) ≤ (↑s.length : Int)))
          (.chk (decide ((↑s.length : Int) ≤ (↑s.length : Int)))
          (.cnd (decide (runeN (List.drop (↑pos : Int).toNat (List.take (↑s.length : Int).toNat s)) < 2))
            (.ok (.inl (Ex.pan (DV.iface 108 (DV.agg [DV.int IntKind.i64 (↑pos : Int)])), ⟨slots 0 [], [PObj.cells [PV.d (DV.int IntKind.i64 n)], PObj.iter s (pos + (Utf8.decode { data := s.toArray } pos).snd)]⟩)))
            (.chk (decide (0 ≤ n) && decide (n ≤ (↑big : Int)))
            (.ok (.inr ⟨slots 32 [(0, PV.d (DV.str s)), (1, PV.func 60 [PV.ptr 0 0]), (9, PV.ptr 1 0)], [PObj.cells [PV.d (DV.int IntKind.i64 (n + 1))], PObj.iter s (pos + (Utf8.decode { data := s.toArray } pos).snd)]⟩))))))
          (.chk (decide (0 ≤ n) && decide (n ≤ (↑big : Int)))
          (.ok (.inr ⟨slots 32 [(0, PV.d (DV.str s)), (1, PV.func 60 [PV.ptr 0 0]), (9, PV.ptr 1 0)], [PObj.cells [PV.d (DV.int IntKind.i64 (n + 1))], PObj.iter s (pos + (Utf8.decode { data := s.toArray } pos).snd)]⟩))))
        (.ok (.inl (Ex.exit 0, ⟨slots 32 [(0, PV.d (DV.str s))], [PObj.cells [PV.d (DV.int IntKind.i64 n)], PObj.iter s pos]⟩)))) (rnd K G) := by kernel_rfl
theorem round84_0b (F : Nat) {R : Type} (s : List UInt8) (pos : Nat) (l : List DV) (K : Ex → St → Option R) (G : St → Option R) : roundK (pcodeK (ctx F [(54, .eff (frameT S54)), (60, .eff (frameT S60)), (75, .pure S75)]) noL (lp Tryd.f84 0)) 2 (allBut 32 [0, 1, 9] ++ temps (lp Tryd.f84 0)) (allBut 32 [0]) ⟨slots 32 [(0, .d (.str s)), (1, .func 54 [.ptr 0 0]), (9, .ptr 1 0)], [.cells [.own 1 l], .iter s pos]⟩ K G =
    Tr.run
      (.cnd (decide (pos < s.length))
        (.cnd (decide ((↑(Utf8.decode { data := s.toArray } pos).fst : Int) = 65533))
          (.chk (decide ((↑pos : Int) ≤ (↑s.length : Int)))
          (.chk (decide ((↑s.length : Int) ≤ (↑s.length : Int)))
          (.cnd (decide (runeN (List.drop (↑pos : Int).toNat (List.take (↑s.length : Int).toNat s)) < 2))
            (.ok (.inl (Ex.pan (DV.iface 108 (DV.agg [DV.int IntKind.i64 (↑pos : Int)])), ⟨slots 0 [], [PObj.cells [PV.own 1 l], PObj.iter s (pos + (Utf8.decode { data := s.toArray } pos).snd)]⟩)))
            (.chk (decide (0 ≤ (↑(Utf8.decode { data := s.toArray } pos).fst : Int)) && decide (l.length ≤ big))
            (.ok (.inr ⟨slots 32 [(0, PV.d (DV.str s)), (1, PV.func 54 [PV.ptr 0 0]), (9, PV.ptr 1 0)], [PObj.cells [PV.own 1 (l ++ [DV.str (writ (↑(Utf8.decode { data := s.toArray } pos).fst : Int))])],
        PObj.iter s (pos + (Utf8.decode { data := s.toArray } pos).snd)]⟩))))))
          (.chk (decide (0 ≤ (↑(Utf8.decode { data := s.toArray } pos).fst : Int)) && decide (l.length ≤ big))
          (.ok (.inr ⟨slots 32 [(0, PV.d (DV.str s)), (1, PV.func 54 [PV.ptr 0 0]), (9, PV.ptr 1 0)], [PObj.cells [PV.own 1 (l ++ [DV.str (writ (↑(Utf8.decode { data := s.toArray } pos).fst : Int))])],
        PObj.iter s (pos + (Utf8.decode { data := s.toArray } pos).snd)]⟩))))
        (.ok (.inl (Ex.exit 0, ⟨slots 32 [(0, PV.d (DV.str s))], [PObj.cells [PV.own 1 l], PObj.iter s pos]⟩)))) (rnd K G) := by kernel_rfl
/-! fasti value.each -/
theorem fn84 : FnOk Tryd.prog 84 32 [] (body Tryd.f84) := ⟨Tryd.f84, Tryd.func84, bodySome _ (by kernel_rfl), by kernel_rfl, by kernel_rfl, by kernel_rfl, by kernel_rfl⟩
theorem run84 (F : Nat) (s : List UInt8) (n : Int) : runE (ctx F [(54, .eff (frameT S54)), (60, .eff (frameT S60)), (75, .pure S75)]) L84 32 [] (body Tryd.f84) [.d (.str s), .func 60 [.ptr 0 0]] [.cells [.d (.int .i64 n)]] =
    Tr.val
      (.chk (decide (s = s) && decide (0 ≤ s.length) && decide (s.length ≤ big) && decide (0 ≤ n) && decide (n ≤ (↑0 : Int)))
      (.cnd ((eachR s FU 0).fst)
        (.ok ((Out.ret (PV.tup []), [PObj.cells [PV.d (DV.int IntKind.i64 (n + (↑(eachR s FU 0).snd.snd.length : Int)))]])))
        (.ok ((Out.pan (DV.iface 108 (DV.agg [DV.int IntKind.i64 (↑(eachR s FU 0).snd.fst : Int)])),
        [PObj.cells [PV.d (DV.int IntKind.i64 (n + (↑(eachR s FU 0).snd.snd.length : Int)))]]))))) := by kernel_rfl
theorem run84_2 (F : Nat) (s : List UInt8) (l : List DV) : runE (ctx F [(54, .eff (frameT S54)), (60, .eff (frameT S60)), (75, .pure S75)]) L84 32 [] (body Tryd.f84) [.d (.str s), .func 54 [.ptr 0 0]] [.cells [.own 1 l]] =
    Tr.val
      (.chk (decide (s = s) && decide (0 ≤ s.length) && decide (s.length + 1 ≤ big) && decide (l.length ≤ 0 + 1))
      (.cnd ((eachR s FU 0).fst)
        (.ok ((Out.ret (PV.tup []), [PObj.cells [PV.own 1 (l ++ writs (eachR s FU 0).snd.snd)]])))
        (.ok ((Out.pan (DV.iface 108 (DV.agg [DV.int IntKind.i64 (↑(eachR s FU 0).snd.fst : Int)])),
        [PObj.cells [PV.own 1 (l ++ writs (eachR s FU 0).snd.snd)]]))))) := by kernel_rfl
/-! fasti value.through -/
theorem fn53 : FnOk Tryd.prog 53 9 [.cell 4 4] (body Tryd.f53) := ⟨Tryd.f53, Tryd.func53, bodySome _ (by kernel_rfl), by kernel_rfl, by kernel_rfl, by kernel_rfl, by kernel_rfl⟩
theorem df53 : DfOk (body Tryd.f53) 1 5 := ⟨by kernel_rfl, by kernel_rfl, by kernel_rfl, by kernel_rfl, by kernel_rfl⟩
theorem run53 (F : Nat) (s : List UInt8) (n : Int) : runDE (ctx F [(84, .eff (frameT S84))]) noL 9 [.cell 4 4] (headsC 1 (body Tryd.f53)) (opAt (hdS (dropC 1 (body Tryd.f53))) 0) 5 83 (tlS (dropC 1 (body Tryd.f53))) (frameD S83) [.d (.str s), .func 60 [.ptr 0 0]] [.cells [.d (.int .i64 n)]] =
    Tr.val
      (.chk (decide (s.length ≤ big) && decide (n = 0))
      (.cnd (okR s)
        (.ok ((Out.ret (PV.d (DV.bool true)), [PObj.cells [PV.d (DV.int IntKind.i64 (↑(runesR s).length : Int))]])))
        (.ok ((Out.ret (PV.d (DV.bool false)), [PObj.cells [PV.d (DV.int IntKind.i64 (↑(runesR s).length : Int))]]))))) := by kernel_rfl
theorem run53_2 (F : Nat) (s : List UInt8) (l : List DV) : runDE (ctx F [(84, .eff (frameT S84))]) noL 9 [.cell 4 4] (headsC 1 (body Tryd.f53)) (opAt (hdS (dropC 1 (body Tryd.f53))) 0) 5 83 (tlS (dropC 1 (body Tryd.f53))) (frameD S83) [.d (.str s), .func 54 [.ptr 0 0]] [.cells [.own 1 l]] =
    Tr.val
      (.chk (decide (s.length + 1 ≤ big) && decide (l.length ≤ 1))
      (.cnd (okR s)
        (.ok ((Out.ret (PV.d (DV.bool true)), [PObj.cells [PV.own 1 (l ++ writs (runesR s))]])))
        (.ok ((Out.ret (PV.d (DV.bool false)), [PObj.cells [PV.own 1 (l ++ writs (runesR s))]]))))) := by kernel_rfl
/-! fasti value.Runes -/
theorem fn28 : FnOk Tryd.prog 28 9 [.tmp 2] (body Tryd.f28) := ⟨Tryd.f28, Tryd.func28, bodySome _ (by kernel_rfl), by kernel_rfl, by kernel_rfl, by kernel_rfl, by kernel_rfl⟩
theorem run28 (F : Nat) (s : List UInt8) : runP (ctx F [(53, .eff (frameT S53))]) noL 9 [.tmp 2] (body Tryd.f28) [.d (.str s)] =
    Tr.val
      (.chk (decide (s.length ≤ big) && decide (0 = 0))
      (.cnd (!okR s)
        (.ok (PV.d (DV.int IntKind.i64 (Int.negSucc 0))))
        (.ok (PV.d (DV.int IntKind.i64 (↑(runesR s).length : Int)))))) := by kernel_rfl
/-! fasti value.Quote -/
theorem fn23 : FnOk Tryd.prog 23 14 [.tmp 2, .tmp 3] (body Tryd.f23) := ⟨Tryd.f23, Tryd.func23, bodySome _ (by kernel_rfl), by kernel_rfl, by kernel_rfl, by kernel_rfl, by kernel_rfl⟩
theorem run23 (F : Nat) (s : List UInt8) : runP (ctx F [(53, .eff (frameT S53)), (56, .pure S56)]) noL 14 [.tmp 2, .tmp 3] (body Tryd.f23) [.d (.str s)] =
    Tr.val
      (.chk (decide (s.length + 1 ≤ big) &&
        decide
          ((fillS (rep 1 (zeroDV ((ctx F [(53, EK.eff (frameT S53)), (56, EK.pure S56)]).ty 9)))
                [(0, DV.str ([34] : List UInt8))]).length ≤
            1))
      (.cnd (!okR s)
        (.ok (PV.tup [PV.d (DV.str ([] : List UInt8)), PV.d (DV.int IntKind.i64 (2))]))
        (.chk (limit 16
        ((fillS (rep 1 (zeroDV ((ctx F [(53, EK.eff (frameT S53)), (56, EK.pure S56)]).ty 9)))
                [(0, DV.str ([34] : List UInt8))] ++
              writs (runesR s)).length +
          (fillS (rep 1 (zeroDV ((ctx F [(53, EK.eff (frameT S53)), (56, EK.pure S56)]).ty 9)))
              [(0, DV.str ([34] : List UInt8))]).length))
        (.chk (allStr
            (fillS (rep 1 (zeroDV ((ctx F [(53, EK.eff (frameT S53)), (56, EK.pure S56)]).ty 9)))
                  [(0, DV.str ([34] : List UInt8))] ++
                writs (runesR s) ++
              fillS (rep 1 (zeroDV ((ctx F [(53, EK.eff (frameT S53)), (56, EK.pure S56)]).ty 9)))
                [(0, DV.str ([34] : List UInt8))]) &&
          decide
            ((fillS (rep 1 (zeroDV ((ctx F [(53, EK.eff (frameT S53)), (56, EK.pure S56)]).ty 9)))
                      [(0, DV.str ([34] : List UInt8))] ++
                    writs (runesR s) ++
                  fillS (rep 1 (zeroDV ((ctx F [(53, EK.eff (frameT S53)), (56, EK.pure S56)]).ty 9)))
                    [(0, DV.str ([34] : List UInt8))]).length ≤
              140737488355328) &&
        decide
          ((Lib.join
                (strsOf
                  (fillS (rep 1 (zeroDV ((ctx F [(53, EK.eff (frameT S53)), (56, EK.pure S56)]).ty 9)))
                        [(0, DV.str ([34] : List UInt8))] ++
                      writs (runesR s) ++
                    fillS (rep 1 (zeroDV ((ctx F [(53, EK.eff (frameT S53)), (56, EK.pure S56)]).ty 9)))
                      [(0, DV.str ([34] : List UInt8))]))
                ([] : List UInt8)).length ≤
            140737488355328))
        (.ok (PV.tup
        [PV.d
            (DV.str
              (Lib.join
                (strsOf
                  (fillS (rep 1 (zeroDV ((ctx F [(53, EK.eff (frameT S53)), (56, EK.pure S56)]).ty 9)))
                        [(0, DV.str ([34] : List UInt8))] ++
                      writs (runesR s) ++
                    fillS (rep 1 (zeroDV ((ctx F [(53, EK.eff (frameT S53)), (56, EK.pure S56)]).ty 9)))
                      [(0, DV.str ([34] : List UInt8))]))
                ([] : List UInt8))),
          PV.d (DV.int IntKind.i64 (0))])))))) := by kernel_rfl
/-! fasti value.Check -/
theorem fn21x : FnOk Tryd.prog 21 27 [.tmp 2] (body Tryd.f21) := ⟨Tryd.f21, Tryd.func21, bodySome _ (by kernel_rfl), by kernel_rfl, by kernel_rfl, by kernel_rfl, by kernel_rfl⟩
theorem run21x (F : Nat) (k n : Int) (s : List UInt8) : runP (ctx F [(28, .pure S28)]) noL 27 [.tmp 2] (body Tryd.f21) [.d (.agg [.int .i64 k, .int .i64 n, .str s])] =
    Tr.val
      (.cnd (decide (k = 1))
        (.cnd (decide (s = ([] : List UInt8)))
          (.ok (PV.d (DV.int IntKind.i64 (0))))
          (.ok (PV.d (DV.int IntKind.i64 (2)))))
        (.cnd (decide (k = 2))
          (.cnd (decide (n = 0))
            (.cnd (decide ((↑s.length : Int) ≤ 40))
              (.chk (decide (s.length ≤ big))
              (.cnd (decide (runesN s ≥ 0))
                (.ok (PV.d (DV.int IntKind.i64 (0))))
                (.ok (PV.d (DV.int IntKind.i64 (2))))))
              (.ok (PV.d (DV.int IntKind.i64 (2)))))
            (.ok (PV.d (DV.int IntKind.i64 (2)))))
          (.ok (PV.d (DV.int IntKind.i64 (2)))))) := by kernel_rfl
/-! fasti value.Text -/
theorem fn20x : FnOk Tryd.prog 20 21 [.tmp 2, .tmp 3] (body Tryd.f20) := ⟨Tryd.f20, Tryd.func20, bodySome _ (by kernel_rfl), by kernel_rfl, by kernel_rfl, by kernel_rfl, by kernel_rfl⟩
theorem run20x (F : Nat) (k n : Int) (s : List UInt8) : runP (ctx F [(21, .pure S21), (23, .pure S23), (49, .pure S49)]) noL 21 [.tmp 2, .tmp 3] (body Tryd.f20) [.d (.agg [.int .i64 k, .int .i64 n, .str s])] =
    Tr.val
      (.chk (decide (s.length ≤ big))
      (.cnd (rightR k n s)
        (.cnd (decide (k = 1))
          (.chk (decide (-9223372036854775808 ≤ n) && decide (n ≤ 9223372036854775807))
          (.ok (PV.tup [PV.d (DV.str (Lib.itoa n)), PV.d (DV.int IntKind.i64 (0))])))
          (.chk (decide (s.length + 2 ≤ big))
          (.cnd (okR s)
            (.ok (PV.tup [PV.d (DV.str (quoteR s)), PV.d (DV.int IntKind.i64 (0))]))
            (.ok (PV.tup [PV.d (DV.str []), PV.d (DV.int IntKind.i64 (2))])))))
        (.ok (PV.tup [PV.d (DV.str ([] : List UInt8)), PV.d (DV.int IntKind.i64 (2))])))) := by kernel_rfl
end Go.PS
end

section
namespace Go.PS
open Go.Proofs
theorem eachR_le (s : List UInt8) : ∀ (m k : Nat), k ≤ s.length → (eachR s m k).2.2.length ≤ s.length - k ∧ (eachR s m k).2.1 ≤ s.length := by
  intro m
  induction m with
  | zero => intro k h; simp only [eachR]; simp; omega
  | succ m ih =>
    intro k h
    simp only [eachR]
    by_cases hk : k < s.length
    · simp only [if_pos hk]
      by_cases hw : width s k = 0
      · simp only [if_pos hw]; simp; omega
      · simp only [if_neg hw]
        rcases dec_cases s k hk with ⟨_, hd, _⟩ | ⟨_, _, hw'⟩ | ⟨_, _, h3, h4, _⟩
        · have e1 : (dec s k).2 = 1 := by rw [hd]
          have := ih (k + (dec s k).2) (by omega)
          simp only [List.length_cons]
          omega
        · exact absurd hw' hw
        · have := ih (k + (dec s k).2) (by omega)
          simp only [List.length_cons]
          omega
    · simp only [if_neg hk]; simp; omega

theorem enc_len (r : Int) : (enc r).length ≤ 4 := by
  unfold enc Utf8.encode
  dsimp only
  repeat' split
  all_goals simp [Utf8.runeError]
  all_goals (repeat' split) <;> simp
set_option maxRecDepth 100000 in
theorem lowRune : ∀ n : Fin 128, (n.val < 32 ∨ n.val = 127) →
    (0 ≤ (n.val : Int).fdiv (2 ^ min (Int.toNat 4) IntKind.i32.bits)) ∧ ((n.val : Int).fdiv (2 ^ min (Int.toNat 4) IntKind.i32.bits)).toNat < 16 ∧
    0 ≤ IntKind.i32.wrap (↑(BitVec.ofInt IntKind.i32.bits (n.val : Int) &&& BitVec.ofInt IntKind.i32.bits 15).toNat : Int) ∧
    (IntKind.i32.wrap (↑(BitVec.ofInt IntKind.i32.bits (n.val : Int) &&& BitVec.ofInt IntKind.i32.bits 15).toNat : Int)).toNat < 16 ∧
    (Utf8.encode (↑(([48, 49, 50, 51, 52, 53, 54, 55, 56, 57, 97, 98, 99, 100, 101, 102] : List UInt8).getD ((n.val : Int).fdiv (2 ^ min (Int.toNat 4) IntKind.i32.bits)).toNat 0).toNat : Int)).data.toList = [hexDig ((n.val : Int) / 16)] ∧
    (Utf8.encode (↑(([48, 49, 50, 51, 52, 53, 54, 55, 56, 57, 97, 98, 99, 100, 101, 102] : List UInt8).getD (IntKind.i32.wrap (↑(BitVec.ofInt IntKind.i32.bits (n.val : Int) &&& BitVec.ofInt IntKind.i32.bits 15).toNat : Int)).toNat 0).toNat : Int)).data.toList = [hexDig ((n.val : Int) % 16)] := by decide

theorem ok60 (W0 : World) : EKOk Tryd.prog W0 60 (.eff (frameT S60)) := by
  refine eff_of (tyOk 0 []) (look_ok all_nil) mixed fn60 (lpsOk_no _ _) fun args H r h => ?_
  unfold S60 at h
  split at h
  · rename_i a r0 n
    refine (run60 0 a r0 n).trans ?_
    rw [← h]
    simp only [Tr.val_chk, chk_some, Bool.and_eq_true, decide_eq_true_eq] at h
    obtain ⟨⟨h0, h1⟩, _⟩ := h
    unfold big at h1
    have w : IntKind.i64.wrap (n + 1) = n + 1 := wrap64 (by omega) (by omega)
    simp only [Tr.val_ok, Tr.val_chk, w]
    rw [chk_t (by unfold big; simp only [Bool.and_eq_true, decide_eq_true_eq]; omega)]
  · simp [Tr.val_no] at h
theorem ok55 (W0 : World) : EKOk Tryd.prog W0 55 (.pure S55) := by
  refine pure_of (tyOk 0 []) (look_ok all_nil) mixed fn55 (lpsOk_no _ _) fun args r h => ?_
  unfold S55 at h
  split at h
  · rename_i r0
    refine (run55 0 r0).trans ?_
    rw [← h]
    simp only [Tr.val_chk, chk_some, decide_eq_true_eq] at h
    obtain ⟨h0, _⟩ := h
    have he := enc_len r0
    unfold enc at he
    simp only [Tr.val_ok, Tr.val_cnd, Tr.val_chk]
    rw [chk_p h0]
    have hl1 : ([92] : List UInt8).length + (Utf8.encode r0).data.toList.length ≤ 9223372036854775807 := by rw [List.length_singleton]; omega
    simp only [chk_p hl1]
    unfold writ enc
    by_cases c1 : r0 = 34
    · rw [cnd_p c1, if_pos (Or.inl c1)]; rfl
    · rw [cnd_n c1]
      by_cases c2 : r0 = 92
      · rw [cnd_p c2, if_pos (Or.inr c2)]; rfl
      · rw [cnd_n c2, if_neg (by omega)]
        by_cases c3 : r0 = 10
        · rw [cnd_p c3, if_pos c3]
        · rw [cnd_n c3, if_neg c3]
          by_cases g : r0 < 32 ∨ r0 = 127
          · rw [if_pos g]
            obtain ⟨n, rfl⟩ := Int.eq_ofNat_of_zero_le h0
            obtain ⟨f1, f2, f3, f4, f5, f6⟩ := lowRune ⟨n, by omega⟩ (by show n < 32 ∨ n = 127; omega)
            dsimp only at f1 f2 f3 f4 f5 f6
            have e1 : ∀ x : UInt8, ([92, 120] : List UInt8).length + [x].length ≤ 9223372036854775807 := fun x => by simp
            have e2 : ∀ x y : UInt8, (([92, 120] : List UInt8) ++ [x]).length + [y].length ≤ 9223372036854775807 := fun x y => by simp
            have l16 : ([48, 49, 50, 51, 52, 53, 54, 55, 56, 57, 97, 98, 99, 100, 101, 102] : List UInt8).length = 16 := rfl
            simp only [f5, f6, l16]
            by_cases c4 : (n : Int) < 32
            · rw [cnd_p c4, chk_p f1, chk_p f2, chk_p (e1 _), chk_p f3, chk_p f4, chk_p (e2 _ _)]; rfl
            · rw [cnd_n c4, cnd_p (by omega), chk_p f1, chk_p f2, chk_p (e1 _), chk_p f3, chk_p f4, chk_p (e2 _ _)]; rfl
          · rw [if_neg g, cnd_n (by omega), cnd_n (by omega)]
  · simp [Tr.val_no] at h
theorem ok54 (W0 : World) : EKOk Tryd.prog W0 54 (.eff (frameT S54)) := by
  refine eff_of (tyOk 0 [(55, .pure S55)]) (look_ok (all_cons (ok55 W0) all_nil)) mixed fn54 (lpsOk_no _ _) fun args H r h => ?_
  unfold S54 at h
  split at h
  · rename_i a r0 l
    refine (run54 0 a r0 l).trans ?_
    rw [← h]
    simp only [Tr.val_chk, chk_some, Bool.and_eq_true, decide_eq_true_eq] at h
    obtain ⟨⟨h0, h1⟩, _⟩ := h
    unfold big at h1
    have hlim : ∀ k : Nat, k = 1 → limit 16 (l.length + k) = true := by rintro k rfl; unfold limit; rw [decide_eq_true_eq]; omega
    simp only [Tr.val_ok, Tr.val_chk]
    rw [chk_p h0, chk_t (by exact hlim _ rfl), chk_t (by unfold big; simp only [Bool.and_eq_true, decide_eq_true_eq]; omega)]
  · simp [Tr.val_no] at h
end Go.PS
end

section
namespace Go.PS
open Go.Proofs
theorem writs_cons (r : Int) (l : List Int) : writs (r :: l) = .str (writ r) :: writs l := rfl

theorem loop84a (F : Nat) {R : Type} (s : List UInt8) (K : Ex → St → Option R) (hs : s.length ≤ 1000000) :
    ∀ (m k : Nat) (n : Int), k ≤ s.length → 0 ≤ n → n ≤ k → s.length - k < m →
      loopK (pcodeK (ctx F [(54, .eff (frameT S54)), (60, .eff (frameT S60)), (75, .pure S75)]) noL (lp Tryd.f84 0)) 2 (allBut 32 [0, 1, 9] ++ temps (lp Tryd.f84 0)) (allBut 32 [0]) m
        ⟨slots 32 [(0, .d (.str s)), (1, .func 60 [.ptr 0 0]), (9, .ptr 1 0)], [.cells [.d (.int .i64 n)], .iter s k]⟩ K =
      PS.cnd (eachR s m k).1
        (K (.exit 0) ⟨slots 32 [(0, .d (.str s))], [.cells [.d (.int .i64 (n + (eachR s m k).2.2.length))], .iter s (eachR s m k).2.1]⟩)
        (K (.pan (.iface 108 (.agg [.int .i64 (eachR s m k).2.1]))) ⟨slots 0 [], [.cells [.d (.int .i64 (n + (eachR s m k).2.2.length))], .iter s ((eachR s m k).2.1 + 1)]⟩) := by
  intro m
  induction m with
  | zero => intro k n _ _ _ hm; omega
  | succ m ih =>
    intro k n hk h0 h1 hm
    rw [loopK_succ, round84_0a]
    simp only [Tr.run, rnd, udec]
    by_cases hlt : k < s.length
    · have e0 : List.drop (k : Int).toNat (List.take ((s.length : Nat) : Int).toNat s) = s.drop k := by simp
      have hc : (decide (0 ≤ n) && decide (n ≤ (big : Int))) = true := by unfold big; simp only [Bool.and_eq_true, decide_eq_true_eq]; omega
      rw [cnd_p hlt, e0, runeN_drop s k hlt, chk_t hc]
      have g1 : (k : Int) ≤ (s.length : Int) := by omega
      have g2 : (s.length : Int) ≤ (s.length : Int) := by omega
      have step : ¬ width s k = 0 → k + (dec s k).2 ≤ s.length → 1 ≤ (dec s k).2 → loopK (pcodeK (ctx F [(54, .eff (frameT S54)), (60, .eff (frameT S60)), (75, .pure S75)]) noL (lp Tryd.f84 0)) 2 (allBut 32 [0, 1, 9] ++ temps (lp Tryd.f84 0)) (allBut 32 [0]) m
        ⟨slots 32 [(0, .d (.str s)), (1, .func 60 [.ptr 0 0]), (9, .ptr 1 0)], [.cells [.d (.int .i64 (n + 1))], .iter s (k + (dec s k).2)]⟩ K =
          PS.cnd (eachR s (m + 1) k).1
        (K (.exit 0) ⟨slots 32 [(0, .d (.str s))], [.cells [.d (.int .i64 (n + (eachR s (m + 1) k).2.2.length))], .iter s (eachR s (m + 1) k).2.1]⟩)
        (K (.pan (.iface 108 (.agg [.int .i64 (eachR s (m + 1) k).2.1]))) ⟨slots 0 [], [.cells [.d (.int .i64 (n + (eachR s (m + 1) k).2.2.length))], .iter s ((eachR s (m + 1) k).2.1 + 1)]⟩) := by
        intro hw hd h1
        rw [ih (k + (dec s k).2) (n + 1) hd (by omega) (by omega) (by omega)]
        have e1 : eachR s (m + 1) k = ((eachR s m (k + (dec s k).2)).1, (eachR s m (k + (dec s k).2)).2.1, ((dec s k).1 : Int) :: (eachR s m (k + (dec s k).2)).2.2) := by simp only [eachR, if_pos hlt, if_neg hw]
        rw [e1]
        have e2 : n + 1 + ((eachR s m (k + (dec s k).2)).2.2.length : Int) = n + ((((dec s k).1 : Int) :: (eachR s m (k + (dec s k).2)).2.2).length : Int) := by rw [List.length_cons]; omega
        rw [e2]
      rcases dec_cases s k hlt with ⟨hb, hd, hw⟩ | ⟨hb, hd, hw⟩ | ⟨hb, h1', h2, h3, hw⟩
      · rw [cnd_n (by rw [hd]; show ¬ ((byt s k : Nat) : Int) = 65533; omega)]
        exact step (by omega) (by rw [hd]; show k + 1 ≤ _; omega) (by rw [hd]; exact Nat.le_refl _)
      · have hg : eachR s (m + 1) k = (false, k, []) := by simp only [eachR, if_pos hlt, if_pos hw]
        rw [cnd_p (by rw [hd]; rfl), chk_p g1, chk_p g2, cnd_p (by rw [hd]; decide), hg, hd]
        simp only [cnd_ff, List.length_nil, Int.natCast_zero, Int.add_zero]
      · by_cases c : (((dec s k).1 : Nat) : Int) = 65533
        · rw [cnd_p c, chk_p g1, chk_p g2, cnd_n (by omega)]
          exact step (by omega) (by omega) (by omega)
        · rw [cnd_n c]
          exact step (by omega) (by omega) (by omega)
    · have hg : eachR s (m + 1) k = (true, k, []) := by simp only [eachR, if_neg hlt]
      rw [cnd_n hlt, hg]
      simp only [cnd_tt, List.length_nil, Int.natCast_zero, Int.add_zero]

theorem loop84b (F : Nat) {R : Type} (s : List UInt8) (K : Ex → St → Option R) (hs : s.length + 1 ≤ 1000000) :
    ∀ (m k : Nat) (l : List DV), k ≤ s.length → l.length ≤ k + 1 → s.length - k < m →
      loopK (pcodeK (ctx F [(54, .eff (frameT S54)), (60, .eff (frameT S60)), (75, .pure S75)]) noL (lp Tryd.f84 0)) 2 (allBut 32 [0, 1, 9] ++ temps (lp Tryd.f84 0)) (allBut 32 [0]) m
        ⟨slots 32 [(0, .d (.str s)), (1, .func 54 [.ptr 0 0]), (9, .ptr 1 0)], [.cells [.own 1 l], .iter s k]⟩ K =
      PS.cnd (eachR s m k).1
        (K (.exit 0) ⟨slots 32 [(0, .d (.str s))], [.cells [.own 1 (l ++ writs (eachR s m k).2.2)], .iter s (eachR s m k).2.1]⟩)
        (K (.pan (.iface 108 (.agg [.int .i64 (eachR s m k).2.1]))) ⟨slots 0 [], [.cells [.own 1 (l ++ writs (eachR s m k).2.2)], .iter s ((eachR s m k).2.1 + 1)]⟩) := by
  intro m
  induction m with
  | zero => intro k l _ _ hm; omega
  | succ m ih =>
    intro k l hk h1 hm
    rw [loopK_succ, round84_0b]
    simp only [Tr.run, rnd, udec]
    by_cases hlt : k < s.length
    · have e0 : List.drop (k : Int).toNat (List.take ((s.length : Nat) : Int).toNat s) = s.drop k := by simp
      have hc : (decide (0 ≤ (((dec s k).1 : Nat) : Int)) && decide (l.length ≤ big)) = true := by unfold big; simp only [Bool.and_eq_true, decide_eq_true_eq]; omega
      rw [cnd_p hlt, e0, runeN_drop s k hlt, chk_t hc]
      have g1 : (k : Int) ≤ (s.length : Int) := by omega
      have g2 : (s.length : Int) ≤ (s.length : Int) := by omega
      have step : ¬ width s k = 0 → k + (dec s k).2 ≤ s.length → 1 ≤ (dec s k).2 → loopK (pcodeK (ctx F [(54, .eff (frameT S54)), (60, .eff (frameT S60)), (75, .pure S75)]) noL (lp Tryd.f84 0)) 2 (allBut 32 [0, 1, 9] ++ temps (lp Tryd.f84 0)) (allBut 32 [0]) m
        ⟨slots 32 [(0, .d (.str s)), (1, .func 54 [.ptr 0 0]), (9, .ptr 1 0)], [.cells [.own 1 (l ++ [.str (writ ((dec s k).1 : Int))])], .iter s (k + (dec s k).2)]⟩ K =
          PS.cnd (eachR s (m + 1) k).1
        (K (.exit 0) ⟨slots 32 [(0, .d (.str s))], [.cells [.own 1 (l ++ writs (eachR s (m + 1) k).2.2)], .iter s (eachR s (m + 1) k).2.1]⟩)
        (K (.pan (.iface 108 (.agg [.int .i64 (eachR s (m + 1) k).2.1]))) ⟨slots 0 [], [.cells [.own 1 (l ++ writs (eachR s (m + 1) k).2.2)], .iter s ((eachR s (m + 1) k).2.1 + 1)]⟩) := by
        intro hw hd h1
        rw [ih (k + (dec s k).2) (l ++ [DV.str (writ ((dec s k).1 : Int))]) hd (by rw [List.length_append, List.length_singleton]; omega) (by omega)]
        have e1 : eachR s (m + 1) k = ((eachR s m (k + (dec s k).2)).1, (eachR s m (k + (dec s k).2)).2.1, ((dec s k).1 : Int) :: (eachR s m (k + (dec s k).2)).2.2) := by simp only [eachR, if_pos hlt, if_neg hw]
        rw [e1]
        simp only [writs_cons, List.append_assoc, List.singleton_append]
      rcases dec_cases s k hlt with ⟨hb, hd, hw⟩ | ⟨hb, hd, hw⟩ | ⟨hb, h1', h2, h3, hw⟩
      · rw [cnd_n (by rw [hd]; show ¬ ((byt s k : Nat) : Int) = 65533; omega)]
        exact step (by omega) (by rw [hd]; show k + 1 ≤ _; omega) (by rw [hd]; exact Nat.le_refl _)
      · have hg : eachR s (m + 1) k = (false, k, []) := by simp only [eachR, if_pos hlt, if_pos hw]
        rw [cnd_p (by rw [hd]; rfl), chk_p g1, chk_p g2, cnd_p (by rw [hd]; decide), hg, hd]
        simp only [cnd_ff, writs, List.map_nil, List.append_nil]
      · by_cases c : (((dec s k).1 : Nat) : Int) = 65533
        · rw [cnd_p c, chk_p g1, chk_p g2, cnd_n (by omega)]
          exact step (by omega) (by omega) (by omega)
        · rw [cnd_n c]
          exact step (by omega) (by omega) (by omega)
    · have hg : eachR s (m + 1) k = (true, k, []) := by simp only [eachR, if_neg hlt]
      rw [cnd_n hlt, hg]
      simp only [cnd_tt, writs, List.map_nil, List.append_nil]
end Go.PS
end

section
namespace Go.PS
open Go.Proofs
theorem lps84 (F : Nat) (hF : F = FU) : LpsOk (ctx F [(54, .eff (frameT S54)), (60, .eff (frameT S60)), (75, .pure S75)]) L84 (loopsOf (body Tryd.f84)) := by
  refine lps_one (c := lp Tryd.f84 0) rfl (by kernel_rfl) fun R st K r h => ?_
  unfold T84 at h
  cases hs : shape 32 [0, 1, 9] st.slots with
  | false => rw [hs] at h; simp [Tr.run] at h
  | true =>
  rw [hs] at h
  simp only [cond_true] at h
  have he := shape_eq hs
  obtain ⟨sl0, H⟩ := st
  dsimp only at h he ⊢
  split at h
  · rename_i s n s' pos g0 g1 g9
    simp only [List.map_cons, List.map_nil, g0, g1, g9] at he
    subst he
    simp only [Tr.run] at h
    cases hc : (decide (s' = s) && decide (pos ≤ s.length) && decide (s.length ≤ big) && decide (0 ≤ n) && decide (n ≤ pos)) with
    | false => rw [hc] at h; simp at h
    | true =>
    rw [hc] at h
    simp only [Bool.and_eq_true, decide_eq_true_eq] at hc
    obtain ⟨⟨⟨⟨h0, h1⟩, h2⟩, h3⟩, h4⟩ := hc
    subst h0
    unfold big at h2
    refine (loop84a F s' K h2 F pos n h1 h3 h4 (by rw [hF]; unfold FU; omega)).trans ?_
    rw [← h, hF]
    rfl
  · rename_i s l s' pos g0 g1 g9
    simp only [List.map_cons, List.map_nil, g0, g1, g9] at he
    subst he
    simp only [Tr.run] at h
    cases hc : (decide (s' = s) && decide (pos ≤ s.length) && decide (s.length + 1 ≤ big) && decide (l.length ≤ pos + 1)) with
    | false => rw [hc] at h; simp at h
    | true =>
    rw [hc] at h
    simp only [Bool.and_eq_true, decide_eq_true_eq] at hc
    obtain ⟨⟨⟨h0, h1⟩, h2⟩, h3⟩ := hc
    subst h0
    unfold big at h2
    refine (loop84b F s' K h2 F pos l h1 h3 (by rw [hF]; unfold FU; omega)).trans ?_
    rw [← h, hF]
    rfl
  · simp [Tr.run] at h

theorem ok84 (W0 : World) (hW : Laid W0) : EKOk Tryd.prog W0 84 (.eff (frameT S84)) := by
  refine eff_of (tyOk FU [(54, .eff (frameT S54)), (60, .eff (frameT S60)), (75, .pure S75)]) (look_ok (all_cons (ok54 W0) (all_cons (ok60 W0) (all_cons (ok75 hW) all_nil)))) mixed fn84 (lps84 FU rfl) fun args H r h => ?_
  unfold S84 at h
  split at h
  · rename_i s n
    refine (run84 FU s n).trans ?_
    rw [← h]
    simp only [Tr.val_chk, chk_some, Bool.and_eq_true, decide_eq_true_eq] at h
    obtain ⟨h0, rfl⟩ := h.1
    simp only [Tr.val_ok, Tr.val_cnd, Tr.val_chk, okR, runesR, atR, Int.zero_add]
    rw [chk_t (by simp [h0]), chk_t (by simp [h0])]
  · rename_i s l
    refine (run84_2 FU s l).trans ?_
    rw [← h]
    simp only [Tr.val_chk, chk_some, Bool.and_eq_true, decide_eq_true_eq] at h
    obtain ⟨h0, h1⟩ := h.1
    simp only [Tr.val_ok, Tr.val_cnd, Tr.val_chk, okR, runesR, atR]
    rw [chk_t (by simp [h0, h1]), chk_t (by simp [h0, h1])]
  · simp [Tr.val_no] at h

theorem ok83 (W0 : World) : SoundD Tryd.prog W0 83 (frameD S83) := by
  refine SoundD.frame (recov_of (tyOk 0 []) (look_ok all_nil) mixed rc83 (lpsOk_no _ _) fun m args H r h => ?_)
  unfold S83 at h
  split at h
  · rename_i b
    exact (run83 0 b).trans h
  · rename_i n b
    exact (run83_2 0 b n).trans h
  · simp at h

theorem ok53 (W0 : World) (hW : Laid W0) : EKOk Tryd.prog W0 53 (.eff (frameT S53)) := by
  refine effD_of (tyOk 0 [(84, .eff (frameT S84))]) (look_ok (all_cons (ok84 W0 hW) all_nil)) mixed fn53 (lpsOk_no _ _) df53 (ok83 W0) fun args H r h => ?_
  unfold S53 at h
  split at h
  · rename_i s n
    refine (run53 0 s n).trans ?_
    rw [← h]
    simp only [Tr.val_ok, Tr.val_cnd, Tr.val_chk]
    cases okR s <;> rfl
  · rename_i s l
    refine (run53_2 0 s l).trans ?_
    rw [← h]
    simp only [Tr.val_ok, Tr.val_cnd, Tr.val_chk]
    cases okR s <;> rfl
  · simp [Tr.val_no] at h

theorem ok28 (W0 : World) (hW : Laid W0) : EKOk Tryd.prog W0 28 (.pure S28) := by
  refine pure_of (tyOk 0 [(53, .eff (frameT S53))]) (look_ok (all_cons (ok53 W0 hW) all_nil)) mixed fn28 (lpsOk_no _ _) fun args r h => ?_
  unfold S28 at h
  split at h
  · rename_i s
    refine (run28 0 s).trans ?_
    rw [← h]
    simp only [Tr.val_chk, chk_some, decide_eq_true_eq] at h
    simp only [Tr.val_ok, Tr.val_cnd, Tr.val_chk, runesN]
    rw [chk_t (by simp [h.1]), chk_p h.1]
    cases okR s <;> rfl
  · simp [Tr.val_no] at h

theorem ok21 (W0 : World) (hW : Laid W0) : EKOk Tryd.prog W0 21 (.pure S21) := by
  refine pure_of (tyOk 0 [(28, .pure S28)]) (look_ok (all_cons (ok28 W0 hW) all_nil)) mixed fn21x (lpsOk_no _ _) fun args r h => ?_
  unfold S21 at h
  split at h
  · rename_i k n s
    refine (run21x 0 k n s).trans ?_
    rw [← h]
    simp only [Tr.val_chk, chk_some, decide_eq_true_eq] at h
    have hl : (0 : Int) ≤ (runesR s).length := by omega
    have hr : (runesN s ≥ 0) ↔ okR s = true := by unfold runesN; split <;> simp_all
    have h40 : ((s.length : Int) ≤ 40) ↔ s.length ≤ 40 := by omega
    simp only [Tr.val_ok, Tr.val_cnd, Tr.val_chk, cnd_i, chk_i, decide_eq_true_eq, hr, h40, h.1, rightR, Bool.or_eq_true, Bool.and_eq_true]
    grind
  · simp [Tr.val_no] at h
end Go.PS
end

section
namespace Go.PS
open Go.Proofs Go.RowKit
theorem strs_of_enc {o : Own} {w : World} : ∀ {l : List DV} {xs : List Value}, allStr l = true → EncL o w l xs → ∃ bs : List ByteArray, xs = bs.map Value.string ∧ bs.map (·.data.toList) = strsOf l ∧ ∀ b ∈ bs, b.size ≤ 9223372036854775807
  | [], _, _, h => by cases h; exact ⟨[], rfl, rfl, by simp⟩
  | v :: l, _, ha, h => by
    cases h with | cons hh t =>
    cases v with
    | str s =>
      simp only [allStr] at ha
      obtain ⟨bs, rfl, h2, h3⟩ := strs_of_enc ha t
      cases hh with | str _ hs =>
      refine ⟨⟨s.toArray⟩ :: bs, rfl, by simp [strsOf, h2], ?_⟩
      intro b hb
      rcases List.mem_cons.1 hb with rfl | hb
      · exact hs
      · exact h3 b hb
    | _ => simp [allStr] at ha

theorem ok56 {W0 : World} : EKOk Tryd.prog W0 56 (.pure S56) := by
  refine lib_of Tryd.func56 (bodySome _ (by kernel_rfl)) (by kernel_rfl) fun args v h o sig w xs hg hx => ?_
  unfold S56 at h
  split at h
  · rename_i l p
    simp only [Tr.val_ok, Tr.val_chk, chk_some, Option.some.injEq, Bool.and_eq_true, decide_eq_true_eq] at h
    obtain ⟨⟨⟨ha, hn⟩, hl⟩, rfl⟩ := h
    cases hx with | cons h1 t =>
    cases t with | cons h2 t =>
    cases t
    cases h2 with | d h2 =>
    cases h2 with | str _ hs =>
    cases h1 with | d h1 =>
    have fin : ∀ {e : Ending} {w' : World}, e = .returned (.string ⟨(Lib.join (strsOf l) p).toArray⟩) → Below w.heap.size w w' → ∃ x, e = .returned x ∧ Below w.heap.size w w' ∧ (∀ o sig, PEnc o w' sig (.d (.str (Lib.join (strsOf l) p))) x) ∧ ∀ k, (cmpV (.d (.str (Lib.join (strsOf l) p))) k).noOwn := by
      intro e w' he hb
      exact ⟨_, he, hb, fun _ _ => .d (.str _ (by omega)), fun k => by unfold cmpV; dsimp only; split <;> trivial⟩
    rcases h1.slc_inv with ⟨rfl, ad, rfl⟩ | ⟨b, off, cap, ys, rfl, hcap, hmax, hy, hcell⟩
    · refine (Tryd.strings_Join_none ad 0 _ w).mono ?_
      rintro e w' ⟨he, rfl⟩
      exact fin (by rw [he]; rfl) (.refl _ _)
    · obtain ⟨bs, rfl, hb2, hb3⟩ := strs_of_enc ha hy
      have hlen : l.length = bs.length := by rw [hy.length]; simp
      have hc : ∀ (j : Nat) x, bs[j]? = some x → w.cell? ⟨b, off + j, none⟩ = some (.string x) := by
        intro j x hj
        have := (hcell j (.string x) (by simp [hj])).2 0 (.string x) rfl
        have := this.1
        simpa using this
      by_cases hz : l = []
      · subst hz
        have : bs = [] := List.eq_nil_of_length_eq_zero (by rw [← hlen]; rfl)
        subst this
        refine (Tryd.strings_Join_none _ cap _ w).mono ?_
        rintro e w' ⟨he, rfl⟩
        exact fin (by rw [he]; rfl) (.refl _ _)
      · have hpos : 0 < bs.length := by rw [← hlen]; exact List.length_pos_iff.2 hz
        have hbk : b < w.heap.size := by
          have := hc 0 bs[0] (List.getElem?_eq_getElem hpos)
          by_cases hlt : b < w.heap.size
          · exact hlt
          · exfalso
            unfold World.cell? at this
            simp only [] at this
            rw [Array.getElem?_eq_none (by omega)] at this
            simp at this
        have hpl : (⟨p.toArray⟩ : ByteArray).data.toList = p := rfl
        have := Tryd.strings_Join b off cap bs ⟨p.toArray⟩ w hc hbk (by rw [← hlen]; exact hn) (by rw [← hlen]; exact hcap) (by rw [hb2, hpl]; exact hl)
        rw [hb2, hpl] at this
        rw [hlen]
        refine this.mono ?_
        rintro e w' ⟨he, hb⟩
        exact fin he hb
  · simp [Tr.val_no] at h
end Go.PS
end

section
namespace Go.PS
open Go.Proofs
theorem strsOf_append : ∀ (l r : List DV), allStr l = true → strsOf (l ++ r) = strsOf l ++ strsOf r
  | [], _, _ => rfl
  | v :: l, r, h => by
    cases v with
    | str s => simp only [allStr] at h; simp only [List.cons_append, strsOf, strsOf_append l r h]
    | _ => simp [allStr] at h
theorem allStr_append : ∀ (l r : List DV), allStr l = true → allStr r = true → allStr (l ++ r) = true
  | [], _, _, h => h
  | v :: l, r, h, h2 => by
    cases v with
    | str s => simp only [allStr] at h; simp only [List.cons_append, allStr, allStr_append l r h h2]
    | _ => simp [allStr] at h
theorem writs_all (l : List Int) : allStr (writs l) = true := by
  induction l with
  | nil => rfl
  | cons r l ih => exact ih
theorem writs_strs (l : List Int) : strsOf (writs l) = l.map writ := by
  induction l with
  | nil => rfl
  | cons r l ih => show writ r :: strsOf (writs l) = _; rw [ih]; rfl
theorem writ_len (r : Int) : (writ r).length ≤ 5 := by
  have := enc_len r
  unfold writ
  repeat' split
  all_goals simp
  all_goals omega
theorem flat_len (l : List Int) : ((l.map writ).flatten).length ≤ 5 * l.length := by
  induction l with
  | nil => simp
  | cons r l ih =>
    have := writ_len r
    simp only [List.map_cons, List.flatten_cons, List.length_append, List.length_cons]
    omega
theorem join_flat (xs : List (List UInt8)) : Lib.join xs [] = xs.flatten := by
  unfold Lib.join List.intercalate
  induction xs with
  | nil => rfl
  | cons x xs ih =>
    cases xs with
    | nil => simp
    | cons y ys => simp only [List.intersperse_cons_cons, List.flatten_cons, List.nil_append, ih]

theorem ok23 (W0 : World) (hW : Laid W0) : EKOk Tryd.prog W0 23 (.pure S23) := by
  refine pure_of (tyOk 0 [(53, .eff (frameT S53)), (56, .pure S56)]) (look_ok (all_cons (ok53 W0 hW) (all_cons ok56 all_nil))) mixed fn23 (lpsOk_no _ _) fun args r h => ?_
  unfold S23 at h
  split at h
  · rename_i s
    refine (run23 0 s).trans ?_
    rw [← h]
    simp only [Tr.val_chk, chk_some, decide_eq_true_eq] at h
    have h0 := h.1
    clear h
    have e0 : ∀ z : DV, fillS (rep 1 z) [(0, DV.str ([34] : List UInt8))] = [.str [34]] := fun _ => rfl
    have hr := (eachR_le s FU 0 (Nat.zero_le _)).1
    have hr : (runesR s).length ≤ s.length := by unfold runesR; omega
    have hwl : (writs (runesR s)).length = (runesR s).length := by unfold writs; simp
    have h0 : s.length + 2 ≤ 1000000 := h0
    have ha : allStr ([DV.str [34]] ++ writs (runesR s) ++ [DV.str [34]]) = true := allStr_append _ _ (allStr_append _ _ rfl (writs_all _)) rfl
    have hs : strsOf ([DV.str [34]] ++ writs (runesR s) ++ [DV.str [34]]) = [34] :: (runesR s).map writ ++ [[34]] := by
      rw [strsOf_append _ _ (allStr_append _ _ rfl (writs_all _)), strsOf_append _ _ rfl, writs_strs]; rfl
    have hj : Lib.join (strsOf ([DV.str [34]] ++ writs (runesR s) ++ [DV.str [34]])) [] = quoteR s := by
      rw [join_flat, hs]; unfold quoteR; simp
    have hf := flat_len (runesR s)
    have hq : (quoteR s).length ≤ 140737488355328 := by unfold quoteR; simp only [List.length_append, List.length_cons, List.length_nil]; omega
    have hll : ([DV.str [34]] ++ writs (runesR s) ++ [DV.str [34]]).length ≤ 140737488355328 := by simp only [List.length_append, List.length_cons, List.length_nil, hwl]; omega
    simp only [Tr.val_ok, Tr.val_cnd, Tr.val_chk, e0, hj]
    have c1 : (decide (s.length + 1 ≤ big) && decide (([DV.str [34]] : List DV).length ≤ 1)) = true := by unfold big; simp; omega
    have c2 : limit 16 (([DV.str [34]] ++ writs (runesR s)).length + ([DV.str [34]] : List DV).length) = true := by
      unfold limit; rw [decide_eq_true_eq]; simp only [List.length_append, List.length_cons, List.length_nil, hwl]; omega
    have c3 : (allStr ([DV.str [34]] ++ writs (runesR s) ++ [DV.str [34]]) && decide (([DV.str [34]] ++ writs (runesR s) ++ [DV.str [34]]).length ≤ 140737488355328) && decide ((quoteR s).length ≤ 140737488355328)) = true := by
      rw [ha]; simp only [Bool.and_eq_true, decide_eq_true_eq, true_and]; exact ⟨hll, hq⟩
    rw [chk_t c1, chk_t c2, chk_t c3, chk_p (by unfold big; omega)]
    cases okR s <;> rfl
  · simp [Tr.val_no] at h
theorem ok20 (W0 : World) (hW : Laid W0) : EKOk Tryd.prog W0 20 (.pure S20) := by
  refine pure_of (tyOk 0 [(21, .pure S21), (23, .pure S23), (49, .pure S49)]) (look_ok (all_cons (ok21 W0 hW) (all_cons (ok23 W0 hW) (all_cons (ok49 hW) all_nil)))) mixed fn20x (lpsOk_no _ _) fun args r h => ?_
  unfold S20 at h
  split at h
  · rename_i k n s
    refine (run20x 0 k n s).trans ?_
    rw [← h]
    simp only [Tr.val_chk, chk_some, Bool.and_eq_true, decide_eq_true_eq] at h
    obtain ⟨⟨h0, h1⟩, h2⟩ := h.1
    clear h
    have h40 : rightR k n s = true → ¬ k = 1 → s.length ≤ 40 ∧ okR s = true := by unfold rightR; simp only [Bool.or_eq_true, Bool.and_eq_true, decide_eq_true_eq]; grind
    have hb : s.length ≤ 40 → s.length + 2 ≤ big := by unfold big; omega
    simp only [Tr.val_ok, Tr.val_cnd, Tr.val_chk]
    rw [chk_p h0, chk_t (b := decide (s.length ≤ big) && decide (-9223372036854775808 ≤ n) && decide (n ≤ 9223372036854775807)) (by simp [h0, h1, h2])]
    rw [chk_t (b := decide (-9223372036854775808 ≤ n) && decide (n ≤ 9223372036854775807)) (by simp [h1, h2])]
    cases hr : rightR k n s with
    | false => rfl
    | true =>
      rw [cnd_tt, cnd_tt]
      by_cases k1 : k = 1
      · rw [cnd_p k1, cnd_p k1]
      · obtain ⟨g1, g2⟩ := h40 hr k1
        rw [cnd_n k1, cnd_n k1, chk_p (hb g1), cnd_t g2]
  · simp [Tr.val_no] at h
end Go.PS
end

section
namespace Go.PS
open Go.Proofs
def S103 : List PV → Tr PV
  | [.d (.int .i64 n)] => .chk (decide (0 ≤ n) && decide (n < 16)) (.ok (.d (.str [hexDig n])))
  | _ => .no
/-- a byte as it is written -/
def writB (b : Int) : List UInt8 :=
  if b = 34 ∨ b = 92 then [92, UInt8.ofNat b.toNat]
  else if b = 10 then [92, 110]
  else if b < 32 ∨ b = 127 then [92, 120, hexDig (b / 16), hexDig (b % 16)]
  else [UInt8.ofNat b.toNat]
def S82 : List PV → Tr PV
  | [.d (.int .i64 b)] => .chk (decide (0 ≤ b) && decide (b < 256)) (.ok (.d (.str (writB b))))
  | _ => .no
def flatB : List UInt8 → List UInt8
  | [] => []
  | b :: s => writB (b.toNat : Int) ++ flatB s
def T52 (st : St) : Tr (Ex × St) :=
  bif shape 20 [0, 3, 4] st.slots then
    match gt .undef st.slots 0, gt .undef st.slots 3, gt .undef st.slots 4, st.heap with
    | .d (.str s), .d (.str out), .d (.int .i64 i), [] =>
      .chk (decide (0 ≤ i) && decide (i ≤ s.length) && decide (s.length ≤ big) && decide (out.length ≤ 4 * i + 1)) (.ok (.exit 0, ⟨slots 20 [(0, .d (.str s)), (3, .d (.str (out ++ flatB (s.drop i.toNat))))], []⟩))
    | _, _, _, _ => .no
  else .no
def L52 : Lps := fun i => bif Nat.beq i 3 then some (allBut 20 [0, 3, 4], allBut 20 [0, 3], T52) else none
def quoteB (s : List UInt8) : List UInt8 := 34 :: flatB s ++ [34]
def S52 : List PV → Tr PV
  | [.d (.str s)] => .chk (decide (s.length ≤ big)) (.ok (.d (.str (quoteB s))))
  | _ => .no
def T29 (st : St) : Tr (Ex × St) :=
  bif shape 21 [0, 3, 4] st.slots then
    match gt .undef st.slots 0, gt .undef st.slots 3, gt .undef st.slots 4, st.heap with
    | .d (.str s), .d (.int .i64 n), .d (.int .i64 a), [] =>
      .chk (decide (0 ≤ a) && decide (a ≤ s.length) && decide (s.length ≤ big) && decide (0 ≤ n) && decide (n ≤ a)) (.cnd (eachR s FU a.toNat).1
        (.ok (.exit 0, ⟨slots 21 [(0, .d (.str s)), (3, .d (.int .i64 (n + (eachR s FU a.toNat).2.2.length)))], []⟩))
        (.ok (.ret, ⟨slots 21 [(0, .d (.str s)), (2, .d (.int .i64 (-1))), (3, .d (.int .i64 (n + (eachR s FU a.toNat).2.2.length)))], []⟩)))
    | _, _, _, _ => .no
  else .no
def L29 : Lps := fun i => bif Nat.beq i 3 then some (allBut 21 [0, 3, 4], allBut 21 [0, 2, 3], T29) else none
def S50 : List PV → Tr PV
  | [.d (.agg [.int .i64 k, .int .i64 n, .str s])] => .chk (decide (s.length ≤ big)) (.ok (.d (.bool (rightR k n s))))
  | _ => .no
def S24 : List PV → Tr PV
  | [.d (.str s)] => .chk (decide (s.length ≤ big)) (.cnd (okR s) (.ok (.tup [.d (.str (quoteB s)), .d (.int .i64 0)])) (.ok (.tup [.d (.str []), .d (.int .i64 2)])))
  | _ => .no
/-- of at most so many digits; 0: one digit, not negative -/
def dOk : Nat → Int → Bool
  | 0, n => decide (0 ≤ n) && decide (n < 10)
  | k + 1, n => decide (n.natAbs < 10 ^ (k + 1)) && decide (k < 19)
def S51 (k : Nat) : List PV → Tr PV
  | [.d (.int .i64 n)] => .chk (dOk k n) (.ok (.d (.str (Lib.itoa n))))
  | _ => .no
def S22 : List PV → Tr PV
  | [.d (.agg [.int .i64 k, .int .i64 n, .str s])] => .chk (decide (s.length ≤ big) && decide (-9223372036854775808 ≤ n) && decide (n ≤ 9223372036854775807)) (.cnd (rightR k n s)
      (.cnd (decide (k = 1)) (.ok (.tup [.d (.str (Lib.itoa n)), .d (.int .i64 0)])) (.ok (.tup [.d (.str (quoteB s)), .d (.int .i64 0)])))
      (.ok (.tup [.d (.str []), .d (.int .i64 2)])))
  | _ => .no
end Go.PS
end

section
namespace Go.PS
open Go.Proofs
set_option maxRecDepth 100000
/-! fasti fastiref01.hex -/
theorem fn103 : FnOk Tryd.prog 103 7 [.tmp 2] (body Tryd.f103) := ⟨Tryd.f103, Tryd.func103, bodySome _ (by kernel_rfl), by kernel_rfl, by kernel_rfl, by kernel_rfl, by kernel_rfl⟩
theorem run103 (F : Nat) (n : Int) : runP (ctx F []) noL 7 [.tmp 2] (body Tryd.f103) [.d (.int .i64 n)] =
    Tr.val
      (.chk (decide (0 ≤ n))
      (.chk (decide (n ≤ IntKind.i64.wrap (n + 1)))
      (.chk (decide
        (IntKind.i64.wrap (n + 1) ≤
          (↑([48, 49, 50, 51, 52, 53, 54, 55, 56, 57, 97, 98, 99, 100, 101, 102] : List UInt8).length : Int)))
      (.ok (PV.d
        (DV.str
          (List.drop n.toNat
            (List.take (IntKind.i64.wrap (n + 1)).toNat
              ([48, 49, 50, 51, 52, 53, 54, 55, 56, 57, 97, 98, 99, 100, 101, 102] : List UInt8))))))))) := by kernel_rfl
/-! fasti fastiref01.written -/
theorem fn82 : FnOk Tryd.prog 82 37 [.tmp 2] (body Tryd.f82) := ⟨Tryd.f82, Tryd.func82, bodySome _ (by kernel_rfl), by kernel_rfl, by kernel_rfl, by kernel_rfl, by kernel_rfl⟩
theorem run82 (F : Nat) (b : Int) : runP (ctx F [(103, .pure S103)]) noL 37 [.tmp 2] (body Tryd.f82) [.d (.int .i64 b)] =
    Tr.val
      (.cnd (decide (b = 34))
        (.ok (PV.d
        (DV.str
          (([92] : List UInt8) ++
            bytesOf
              (fillS (rep 1 (zeroDV ((ctx F [(103, EK.pure S103)]).ty 5))) [(0, DV.int IntKind.u8 (IntKind.u8.wrap b))])))))
        (.cnd (decide (b = 92))
          (.ok (PV.d
        (DV.str
          (([92] : List UInt8) ++
            bytesOf
              (fillS (rep 1 (zeroDV ((ctx F [(103, EK.pure S103)]).ty 5))) [(0, DV.int IntKind.u8 (IntKind.u8.wrap b))])))))
          (.cnd (decide (b = 10))
            (.ok (PV.d (DV.str ([92, 110] : List UInt8))))
            (.cnd (decide (b < 32))
              (.chk (decide (0 ≤ IntKind.i64.wrap (b.tdiv 16)) && decide (IntKind.i64.wrap (b.tdiv 16) < 16))
              (.chk (decide (0 ≤ b.tmod 16) && decide (b.tmod 16 < 16))
              (.ok (PV.d (DV.str (([92, 120] : List UInt8) ++ [hexDig (IntKind.i64.wrap (b.tdiv 16))] ++ [hexDig (b.tmod 16)]))))))
              (.cnd (decide (b = 127))
                (.chk (decide (0 ≤ IntKind.i64.wrap (b.tdiv 16)) && decide (IntKind.i64.wrap (b.tdiv 16) < 16))
                (.chk (decide (0 ≤ b.tmod 16) && decide (b.tmod 16 < 16))
                (.ok (PV.d (DV.str (([92, 120] : List UInt8) ++ [hexDig (IntKind.i64.wrap (b.tdiv 16))] ++ [hexDig (b.tmod 16)]))))))
                (.ok (PV.d
        (DV.str
          (bytesOf
            (fillS (rep 1 (zeroDV ((ctx F [(103, EK.pure S103)]).ty 5))) [(0, DV.int IntKind.u8 (IntKind.u8.wrap b))])))))))))) := by kernel_rfl
theorem round52_0 (F : Nat) {R : Type} (s out : List UInt8) (i : Int) (K : Ex → St → Option R) (G : St → Option R) : roundK (pcodeK (ctx F [(82, .pure S82)]) noL (lp Tryd.f52 0)) 0 (allBut 20 [0, 3, 4] ++ temps (lp Tryd.f52 0)) (allBut 20 [0, 3]) ⟨slots 20 [(0, .d (.str s)), (3, .d (.str out)), (4, .d (.int .i64 i))], []⟩ K G =
    Tr.run
      (.cnd (decide (i < (↑s.length : Int)))
        (.chk (decide (0 ≤ i))
        (.chk (decide (i.toNat < s.length))
        (.chk (decide (0 ≤ IntKind.i64.wrap (↑(s.getD i.toNat 0).toNat : Int)) &&
        decide (IntKind.i64.wrap (↑(s.getD i.toNat 0).toNat : Int) < 256))
        (.chk (decide (out.length + (writB (IntKind.i64.wrap (↑(s.getD i.toNat 0).toNat : Int))).length ≤ 9223372036854775807))
        (.ok (.inr ⟨slots 20 [(0, PV.d (DV.str s)), (3, PV.d (DV.str (out ++ writB (IntKind.i64.wrap (↑(s.getD i.toNat 0).toNat : Int))))), (4, PV.d (DV.int IntKind.i64 (IntKind.i64.wrap (i + 1))))], []⟩))))))
        (.ok (.inl (Ex.exit 0, ⟨slots 20 [(0, PV.d (DV.str s)), (3, PV.d (DV.str out))], []⟩)))) (rnd K G) := by kernel_rfl
/-! fasti fastiref01.Quoted -/
theorem fn52 : FnOk Tryd.prog 52 20 [.tmp 2] (body Tryd.f52) := ⟨Tryd.f52, Tryd.func52, bodySome _ (by kernel_rfl), by kernel_rfl, by kernel_rfl, by kernel_rfl, by kernel_rfl⟩
theorem run52 (F : Nat) (s : List UInt8) : runP (ctx F [(82, .pure S82)]) L52 20 [.tmp 2] (body Tryd.f52) [.d (.str s)] =
    Tr.val
      (.chk (decide (0 ≤ 0) && decide (0 ≤ (↑s.length : Int)) && decide (s.length ≤ big) &&
        decide ((↑([34] : List UInt8).length : Int) ≤ 4 * 0 + 1))
      (.chk (decide
        ((([34] : List UInt8) ++ flatB (List.drop (Int.toNat 0) s)).length + ([34] : List UInt8).length ≤
          9223372036854775807))
      (.ok (PV.d (DV.str (([34] : List UInt8) ++ flatB (List.drop (Int.toNat 0) s) ++ ([34] : List UInt8))))))) := by kernel_rfl
theorem round29_0 (F : Nat) {R : Type} (s : List UInt8) (n a : Int) (K : Ex → St → Option R) (G : St → Option R) : roundK (pcodeK (ctx F [(61, .pure S61)]) noL (lp Tryd.f29 0)) 0 (allBut 21 [0, 3, 4] ++ temps (lp Tryd.f29 0)) (allBut 21 [0, 2, 3]) ⟨slots 21 [(0, .d (.str s)), (3, .d (.int .i64 n)), (4, .d (.int .i64 a))], []⟩ K G =
    Tr.run
      (.cnd (decide (a < (↑s.length : Int)))
        (.chk (decide (0 ≤ a) && decide (a + 4 < lim))
        (.cnd (decide (width s a = 0))
          (.ok (.inl (Ex.ret, ⟨slots 21 [(0, PV.d (DV.str s)), (2, PV.d (DV.int IntKind.i64 (Int.negSucc 0))), (3, PV.d (DV.int IntKind.i64 n))], []⟩)))
          (.ok (.inr ⟨slots 21 [(0, PV.d (DV.str s)), (3, PV.d (DV.int IntKind.i64 (IntKind.i64.wrap (n + 1)))), (4, PV.d (DV.int IntKind.i64 (IntKind.i64.wrap (a + width s a))))], []⟩))))
        (.ok (.inl (Ex.exit 0, ⟨slots 21 [(0, PV.d (DV.str s)), (3, PV.d (DV.int IntKind.i64 n))], []⟩)))) (rnd K G) := by kernel_rfl
/-! fasti fastiref01.Runes -/
theorem fn29 : FnOk Tryd.prog 29 21 [.tmp 2] (body Tryd.f29) := ⟨Tryd.f29, Tryd.func29, bodySome _ (by kernel_rfl), by kernel_rfl, by kernel_rfl, by kernel_rfl, by kernel_rfl⟩
theorem run29 (F : Nat) (s : List UInt8) : runP (ctx F [(61, .pure S61)]) L29 21 [.tmp 2] (body Tryd.f29) [.d (.str s)] =
    Tr.val
      (.chk (decide (0 ≤ 0) && decide (0 ≤ (↑s.length : Int)) && decide (s.length ≤ big) && decide (0 ≤ 0) && decide (0 ≤ 0))
      (.cnd ((eachR s FU (Int.toNat 0)).fst)
        (.ok (PV.d (DV.int IntKind.i64 (0 + (↑(eachR s FU (Int.toNat 0)).snd.snd.length : Int)))))
        (.ok (PV.d (DV.int IntKind.i64 (Int.negSucc 0)))))) := by kernel_rfl
/-! fasti fastiref01.Right -/
theorem fn50 : FnOk Tryd.prog 50 33 [.tmp 2] (body Tryd.f50) := ⟨Tryd.f50, Tryd.func50, bodySome _ (by kernel_rfl), by kernel_rfl, by kernel_rfl, by kernel_rfl, by kernel_rfl⟩
theorem run50 (F : Nat) (k n : Int) (s : List UInt8) : runP (ctx F [(29, .pure S28)]) noL 33 [.tmp 2] (body Tryd.f50) [.d (.agg [.int .i64 k, .int .i64 n, .str s])] =
    Tr.val
      (.cnd (decide (k = 1))
        (.cnd (decide (s = ([] : List UInt8)))
          (.ok (PV.d (DV.bool true)))
          (.cnd (decide (k = 2))
            (.cnd (decide (n = 0))
              (.cnd (decide ((↑s.length : Int) ≤ 40))
                (.chk (decide (s.length ≤ big))
                (.ok (PV.d (DV.bool (decide (runesN s ≥ 0))))))
                (.ok (PV.d (DV.bool false))))
              (.ok (PV.d (DV.bool false))))
            (.ok (PV.d (DV.bool false)))))
        (.cnd (decide (k = 2))
          (.cnd (decide (n = 0))
            (.cnd (decide ((↑s.length : Int) ≤ 40))
              (.chk (decide (s.length ≤ big))
              (.ok (PV.d (DV.bool (decide (runesN s ≥ 0))))))
              (.ok (PV.d (DV.bool false))))
            (.ok (PV.d (DV.bool false))))
          (.ok (PV.d (DV.bool false))))) := by kernel_rfl
/-! fasti fastiref01.Check -/
theorem fn25 : FnOk Tryd.prog 25 6 [.tmp 2] (body Tryd.f25) := ⟨Tryd.f25, Tryd.func25, bodySome _ (by kernel_rfl), by kernel_rfl, by kernel_rfl, by kernel_rfl, by kernel_rfl⟩
theorem run25 (F : Nat) (k n : Int) (s : List UInt8) : runP (ctx F [(50, .pure S50)]) noL 6 [.tmp 2] (body Tryd.f25) [.d (.agg [.int .i64 k, .int .i64 n, .str s])] =
    Tr.val
      (.chk (decide (s.length ≤ big))
      (.cnd (!rightR k n s)
        (.ok (PV.d (DV.int IntKind.i64 (2))))
        (.ok (PV.d (DV.int IntKind.i64 (0)))))) := by kernel_rfl
/-! fasti fastiref01.Quote -/
theorem fn24 : FnOk Tryd.prog 24 9 [.tmp 2, .tmp 3] (body Tryd.f24) := ⟨Tryd.f24, Tryd.func24, bodySome _ (by kernel_rfl), by kernel_rfl, by kernel_rfl, by kernel_rfl, by kernel_rfl⟩
theorem run24 (F : Nat) (s : List UInt8) : runP (ctx F [(29, .pure S28), (52, .pure S52)]) noL 9 [.tmp 2, .tmp 3] (body Tryd.f24) [.d (.str s)] =
    Tr.val
      (.chk (decide (s.length ≤ big))
      (.cnd (decide (runesN s < 0))
        (.ok (PV.tup [PV.d (DV.str ([] : List UInt8)), PV.d (DV.int IntKind.i64 (2))]))
        (.chk (decide (s.length ≤ big))
        (.ok (PV.tup [PV.d (DV.str (quoteB s)), PV.d (DV.int IntKind.i64 (0))]))))) := by kernel_rfl
/-! fasti fastiref01.Digits -/
theorem fn51 : FnOk Tryd.prog 51 34 [.tmp 2] (body Tryd.f51) := ⟨Tryd.f51, Tryd.func51, bodySome _ (by kernel_rfl), by kernel_rfl, by kernel_rfl, by kernel_rfl, by kernel_rfl⟩
theorem run51 (F : Nat) (n : Int) : runP (ctx F []) noL 34 [.tmp 2] (body Tryd.f51) [.d (.int .i64 n)] =
    Tr.val
      (.cnd (decide (n < 0))
        (.chk (decide (n > -10))
        .no)
        (.chk (decide (n < 10))
        (.ok (PV.d
        (DV.str
          (bytesOf
            (fillS (rep 1 (zeroDV ((ctx F []).ty 5)))
              [(0, DV.int IntKind.u8 (IntKind.u8.wrap (IntKind.i64.wrap (48 + n))))]))))))) := by kernel_rfl
theorem run51_2 (F : Nat) (n : Int) (k : Nat) : runP (ctx F [(51, .pure (S51 k))]) noL 34 [.tmp 2] (body Tryd.f51) [.d (.int .i64 n)] =
    Tr.val
      (.cnd (decide (n < 0))
        (.cnd (decide (n > -10))
          (.chk (dOk k (IntKind.i64.wrap (0 - n.tmod 10)))
          (.chk (decide
        (([45] : List UInt8).length + (Lib.itoa (IntKind.i64.wrap (0 - n.tmod 10))).length ≤ 9223372036854775807))
          (.ok (PV.d (DV.str (([45] : List UInt8) ++ Lib.itoa (IntKind.i64.wrap (0 - n.tmod 10))))))))
          (.chk (dOk k (IntKind.i64.wrap (n.tdiv 10)))
          (.chk (dOk k (IntKind.i64.wrap (0 - n.tmod 10)))
          (.chk (decide
        ((Lib.itoa (IntKind.i64.wrap (n.tdiv 10))).length + (Lib.itoa (IntKind.i64.wrap (0 - n.tmod 10))).length ≤
          9223372036854775807))
          (.ok (PV.d (DV.str (Lib.itoa (IntKind.i64.wrap (n.tdiv 10)) ++ Lib.itoa (IntKind.i64.wrap (0 - n.tmod 10))))))))))
        (.cnd (decide (n < 10))
          (.ok (PV.d
        (DV.str
          (bytesOf
            (fillS (rep 1 (zeroDV ((ctx F [(51, EK.pure (S51 k))]).ty 5)))
              [(0, DV.int IntKind.u8 (IntKind.u8.wrap (IntKind.i64.wrap (48 + n))))])))))
          (.chk (dOk k (IntKind.i64.wrap (n.tdiv 10)))
          (.chk (dOk k (n.tmod 10))
          (.chk (decide ((Lib.itoa (IntKind.i64.wrap (n.tdiv 10))).length + (Lib.itoa (n.tmod 10)).length ≤ 9223372036854775807))
          (.ok (PV.d (DV.str (Lib.itoa (IntKind.i64.wrap (n.tdiv 10)) ++ Lib.itoa (n.tmod 10)))))))))) := by kernel_rfl
/-! fasti fastiref01.Text -/
theorem fn22 : FnOk Tryd.prog 22 16 [.tmp 2, .tmp 3] (body Tryd.f22) := ⟨Tryd.f22, Tryd.func22, bodySome _ (by kernel_rfl), by kernel_rfl, by kernel_rfl, by kernel_rfl, by kernel_rfl⟩
theorem run22 (F : Nat) (k n : Int) (s : List UInt8) : runP (ctx F [(50, .pure S50), (51, .pure (S51 19)), (52, .pure S52)]) noL 16 [.tmp 2, .tmp 3] (body Tryd.f22) [.d (.agg [.int .i64 k, .int .i64 n, .str s])] =
    Tr.val
      (.chk (decide (s.length ≤ big))
      (.cnd (!rightR k n s)
        (.ok (PV.tup [PV.d (DV.str ([] : List UInt8)), PV.d (DV.int IntKind.i64 (2))]))
        (.cnd (decide (k = 1))
          (.chk (dOk 19 n)
          (.ok (PV.tup [PV.d (DV.str (Lib.itoa n)), PV.d (DV.int IntKind.i64 (0))])))
          (.chk (decide (s.length ≤ big))
          (.ok (PV.tup [PV.d (DV.str (quoteB s)), PV.d (DV.int IntKind.i64 (0))])))))) := by kernel_rfl
/-! fasti fastiref01.Cmp -/
theorem fn27 : FnOk Tryd.prog 27 53 [.tmp 4] (body Tryd.f27) := ⟨Tryd.f27, Tryd.func27, bodySome _ (by kernel_rfl), by kernel_rfl, by kernel_rfl, by kernel_rfl, by kernel_rfl⟩
theorem run27 (F : Nat) (k n k' n' : Int) (s t : List UInt8) : runP (ctx F []) noL 53 [.tmp 4] (body Tryd.f27) [.d (.agg [.int .i64 k, .int .i64 n, .str s]), .d (.agg [.int .i64 k', .int .i64 n', .str t])] =
    Tr.val
      (.cnd (decide (k = k') && (decide (n = n') && (decide (s = t) && true)))
        (.ok (PV.d (DV.int IntKind.i64 (0))))
        (.cnd (!decide (k = k'))
          (.cnd (decide (k < k'))
            (.ok (PV.d (DV.int IntKind.i64 (Int.negSucc 0))))
            (.cnd (decide (k = k'))
              (.cnd (decide (n < n'))
                (.ok (PV.d (DV.int IntKind.i64 (Int.negSucc 0))))
                (.cnd (decide (k = k'))
                  (.cnd (decide (n = n'))
                    (.cnd (Op.bytesLess s t)
                      (.ok (PV.d (DV.int IntKind.i64 (Int.negSucc 0))))
                      (.ok (PV.d (DV.int IntKind.i64 (1)))))
                    (.ok (PV.d (DV.int IntKind.i64 (1)))))
                  (.ok (PV.d (DV.int IntKind.i64 (1))))))
              (.cnd (decide (k = k'))
                (.cnd (decide (n = n'))
                  (.cnd (Op.bytesLess s t)
                    (.ok (PV.d (DV.int IntKind.i64 (Int.negSucc 0))))
                    (.ok (PV.d (DV.int IntKind.i64 (1)))))
                  (.ok (PV.d (DV.int IntKind.i64 (1)))))
                (.ok (PV.d (DV.int IntKind.i64 (1)))))))
          (.cnd (decide (k = k'))
            (.cnd (decide (n < n'))
              (.ok (PV.d (DV.int IntKind.i64 (Int.negSucc 0))))
              (.cnd (decide (k = k'))
                (.cnd (decide (n = n'))
                  (.cnd (Op.bytesLess s t)
                    (.ok (PV.d (DV.int IntKind.i64 (Int.negSucc 0))))
                    (.ok (PV.d (DV.int IntKind.i64 (1)))))
                  (.ok (PV.d (DV.int IntKind.i64 (1)))))
                (.ok (PV.d (DV.int IntKind.i64 (1))))))
            (.cnd (decide (k = k'))
              (.cnd (decide (n = n'))
                (.cnd (Op.bytesLess s t)
                  (.ok (PV.d (DV.int IntKind.i64 (Int.negSucc 0))))
                  (.ok (PV.d (DV.int IntKind.i64 (1)))))
                (.ok (PV.d (DV.int IntKind.i64 (1)))))
              (.ok (PV.d (DV.int IntKind.i64 (1)))))))) := by kernel_rfl
end Go.PS
end

section
namespace Go.PS
open Go.Proofs
theorem hexDig_piece (n : Int) (h0 : 0 ≤ n) (h1 : n < 16) : List.drop n.toNat (List.take (n + 1).toNat ([48, 49, 50, 51, 52, 53, 54, 55, 56, 57, 97, 98, 99, 100, 101, 102] : List UInt8)) = [hexDig n] := by
  obtain ⟨m, rfl⟩ := Int.eq_ofNat_of_zero_le h0
  have : ∀ m : Fin 16, List.drop (m.val : Int).toNat (List.take ((m.val : Int) + 1).toNat ([48, 49, 50, 51, 52, 53, 54, 55, 56, 57, 97, 98, 99, 100, 101, 102] : List UInt8)) = [hexDig (m.val : Int)] := by decide
  exact this ⟨m, by omega⟩
theorem ok103 (W0 : World) : EKOk Tryd.prog W0 103 (.pure S103) := by
  refine pure_of (tyOk 0 []) (look_ok all_nil) mixed fn103 (lpsOk_no _ _) fun args r h => ?_
  unfold S103 at h
  split at h
  · rename_i n
    refine (run103 0 n).trans ?_
    rw [← h]
    simp only [Tr.val_chk, chk_some, Bool.and_eq_true, decide_eq_true_eq] at h
    obtain ⟨h0, h1⟩ := h.1
    have w : IntKind.i64.wrap (n + 1) = n + 1 := wrap64 (by omega) (by omega)
    have l16 : ([48, 49, 50, 51, 52, 53, 54, 55, 56, 57, 97, 98, 99, 100, 101, 102] : List UInt8).length = 16 := rfl
    simp only [Tr.val_ok, Tr.val_chk, w, l16, hexDig_piece n h0 h1]
    rw [chk_p h0, chk_p (by omega), chk_p (by omega), chk_t (by simp [h0, h1])]
  · simp [Tr.val_no] at h
theorem ok82 (W0 : World) : EKOk Tryd.prog W0 82 (.pure S82) := by
  refine pure_of (tyOk 0 [(103, .pure S103)]) (look_ok (all_cons (ok103 W0) all_nil)) mixed fn82 (lpsOk_no _ _) fun args r h => ?_
  unfold S82 at h
  split at h
  · rename_i b
    refine (run82 0 b).trans ?_
    rw [← h]
    simp only [Tr.val_chk, chk_some, Bool.and_eq_true, decide_eq_true_eq] at h
    obtain ⟨h0, h1⟩ := h.1
    have w8 : IntKind.u8.wrap b = b := wrap8 h0 (by omega)
    have e0 : ∀ z : DV, bytesOf (fillS (rep 1 z) [(0, DV.int .u8 b)]) = [UInt8.ofNat b.toNat] := fun _ => rfl
    have w : IntKind.i64.wrap (b.tdiv 16) = b / 16 := by rw [tdiv_nn h0]; exact wrap64 (by omega) (by omega)
    have m : b.tmod 16 = b % 16 := tmod_nn h0
    have c1 : (decide (0 ≤ b / 16) && decide (b / 16 < 16)) = true := by simp only [Bool.and_eq_true, decide_eq_true_eq]; omega
    have c2 : (decide (0 ≤ b % 16) && decide (b % 16 < 16)) = true := by simp only [Bool.and_eq_true, decide_eq_true_eq]; omega
    simp only [Tr.val_ok, Tr.val_cnd, Tr.val_chk, w8, e0, w, m, chk_t c1, chk_t c2]
    rw [chk_t (by simp [h0, h1])]
    simp only [cnd_i, decide_eq_true_eq]
    unfold writB
    grind
  · simp [Tr.val_no] at h
theorem writB_len (b : Int) : (writB b).length ≤ 4 := by
  unfold writB
  repeat' split
  all_goals simp
theorem flatB_len (s : List UInt8) : (flatB s).length ≤ 4 * s.length := by
  induction s with
  | nil => exact Nat.le_refl _
  | cons b s ih => have := writB_len (b.toNat : Int); simp only [flatB, List.length_append, List.length_cons]; omega
theorem loop52 (F : Nat) {R : Type} (s : List UInt8) (K : Ex → St → Option R) (hs : s.length ≤ 1000000) :
    ∀ (m : Nat) (i : Int) (out : List UInt8), 0 ≤ i → i ≤ s.length → out.length ≤ 4 * i + 1 → (s.length - i).toNat < m →
      loopK (pcodeK (ctx F [(82, .pure S82)]) noL (lp Tryd.f52 0)) 0 (allBut 20 [0, 3, 4] ++ temps (lp Tryd.f52 0)) (allBut 20 [0, 3]) m
        ⟨slots 20 [(0, .d (.str s)), (3, .d (.str out)), (4, .d (.int .i64 i))], []⟩ K =
      K (.exit 0) ⟨slots 20 [(0, .d (.str s)), (3, .d (.str (out ++ flatB (s.drop i.toNat))))], []⟩ := by
  intro m
  induction m with
  | zero => intro i out _ _ _ hm; omega
  | succ m ih =>
    intro i out h0 h1 h2 hm
    rw [loopK_succ, round52_0]
    simp only [Tr.run, rnd, chr_fold]
    by_cases hk : i < s.length
    · have c0 := chr_nonneg s i
      have c1 := chr_lt s i
      have w : IntKind.i64.wrap (chr s i) = chr s i := wrap64 (by omega) (by omega)
      have w1 : IntKind.i64.wrap (i + 1) = i + 1 := wrap64 (by omega) (by omega)
      have wl := writB_len (chr s i)
      have hd : s.drop i.toNat = s.getD i.toNat 0 :: s.drop (i + 1).toNat := by
        rw [List.drop_eq_getElem_cons (show i.toNat < s.length by omega), show (i + 1).toNat = i.toNat + 1 by omega]
        simp [List.getD_eq_getElem?_getD, show i.toNat < s.length by omega]
      have hf : flatB (s.drop i.toNat) = writB (chr s i) ++ flatB (s.drop (i + 1).toNat) := by rw [hd]; rfl
      rw [cnd_p hk, chk_p h0, chk_p (by omega), w, w1, chk_t (by simp only [Bool.and_eq_true, decide_eq_true_eq]; omega), chk_p (by omega), ih (i + 1) _ (by omega) (by omega) (by rw [List.length_append]; omega) (by omega), hf, List.append_assoc]
    · have : s.drop i.toNat = [] := List.drop_eq_nil_of_le (by omega)
      rw [cnd_n hk, this]
      simp only [flatB, List.append_nil]
theorem lps52 (F : Nat) (hF : F = FU) : LpsOk (ctx F [(82, .pure S82)]) L52 (loopsOf (body Tryd.f52)) := by
  refine lps_one (c := lp Tryd.f52 0) rfl (by kernel_rfl) fun R st K r h => ?_
  unfold T52 at h
  cases hs : shape 20 [0, 3, 4] st.slots with
  | false => rw [hs] at h; simp [Tr.run] at h
  | true =>
  rw [hs] at h
  simp only [cond_true] at h
  have he := shape_eq hs
  obtain ⟨sl0, H⟩ := st
  dsimp only at h he ⊢
  split at h
  · rename_i s out i g0 g1 g2
    simp only [List.map_cons, List.map_nil, g0, g1, g2] at he
    subst he
    simp only [Tr.run] at h
    cases hc : (decide (0 ≤ i) && decide (i ≤ s.length) && decide (s.length ≤ big) && decide (out.length ≤ 4 * i + 1)) with
    | false => rw [hc] at h; simp at h
    | true =>
    rw [hc] at h
    simp only [Bool.and_eq_true, decide_eq_true_eq] at hc
    obtain ⟨⟨⟨h0, h1⟩, h2⟩, h3⟩ := hc
    unfold big at h2
    exact (loop52 F s K h2 F i out h0 h1 h3 (by rw [hF]; unfold FU; omega)).trans h
  · simp [Tr.run] at h
theorem ok52 (W0 : World) : EKOk Tryd.prog W0 52 (.pure S52) := by
  refine pure_of (tyOk FU [(82, .pure S82)]) (look_ok (all_cons (ok82 W0) all_nil)) mixed fn52 (lps52 FU rfl) fun args r h => ?_
  unfold S52 at h
  split at h
  · rename_i s
    refine (run52 FU s).trans ?_
    rw [← h]
    simp only [Tr.val_chk, chk_some, decide_eq_true_eq] at h
    have h0 := h.1
    have hb : s.length ≤ 1000000 := h0
    have hf := flatB_len s
    have e : List.drop (Int.toNat 0) s = s := rfl
    simp only [Tr.val_ok, Tr.val_chk, e]
    rw [chk_p h0, chk_t (by simp [h0]), chk_p (by simp only [List.length_append, List.length_singleton]; omega)]
    rfl
  · simp [Tr.val_no] at h
theorem loop29 (F : Nat) {R : Type} (s : List UInt8) (K : Ex → St → Option R) (hs : s.length ≤ 1000000) :
    ∀ (m k : Nat) (n : Int), k ≤ s.length → 0 ≤ n → n ≤ k → s.length - k < m →
      loopK (pcodeK (ctx F [(61, .pure S61)]) noL (lp Tryd.f29 0)) 0 (allBut 21 [0, 3, 4] ++ temps (lp Tryd.f29 0)) (allBut 21 [0, 2, 3]) m
        ⟨slots 21 [(0, .d (.str s)), (3, .d (.int .i64 n)), (4, .d (.int .i64 k))], []⟩ K =
      PS.cnd (eachR s m k).1
        (K (.exit 0) ⟨slots 21 [(0, .d (.str s)), (3, .d (.int .i64 (n + (eachR s m k).2.2.length)))], []⟩)
        (K .ret ⟨slots 21 [(0, .d (.str s)), (2, .d (.int .i64 (-1))), (3, .d (.int .i64 (n + (eachR s m k).2.2.length)))], []⟩) := by
  intro m
  induction m with
  | zero => intro k n _ _ _ hm; omega
  | succ m ih =>
    intro k n hk h0 h1 hm
    rw [loopK_succ, round29_0]
    simp only [Tr.run, rnd]
    by_cases hlt : k < s.length
    · rw [cnd_p (by omega), chk_t (lim_ok (by omega) (by omega))]
      have wn : IntKind.i64.wrap (n + 1) = n + 1 := wrap64 (by omega) (by omega)
      by_cases hw : width s k = 0
      · have hg : eachR s (m + 1) k = (false, k, []) := by simp only [eachR, if_pos hlt, if_pos hw]
        rw [cnd_p hw, hg]
        simp only [cnd_ff, List.length_nil, Int.natCast_zero, Int.add_zero]
        rfl
      · have hd : width s k = ((dec s k).2 : Int) ∧ k + (dec s k).2 ≤ s.length ∧ 1 ≤ (dec s k).2 := by
          rcases dec_cases s k hlt with ⟨hb, hd, hw'⟩ | ⟨hb, hd, hw'⟩ | ⟨hb, _, h2, h3, hw'⟩
          · rw [hd, hw']; simp; omega
          · exact absurd hw' hw
          · rw [hw']; omega
        obtain ⟨d1, d2, d3⟩ := hd
        have wk : IntKind.i64.wrap ((k : Int) + width s k) = ((k + (dec s k).2 : Nat) : Int) := by rw [d1]; exact (wrap64 (by omega) (by omega)).trans (by omega)
        have e1 : eachR s (m + 1) k = ((eachR s m (k + (dec s k).2)).1, (eachR s m (k + (dec s k).2)).2.1, ((dec s k).1 : Int) :: (eachR s m (k + (dec s k).2)).2.2) := by simp only [eachR, if_pos hlt, if_neg hw]
        have e2 : n + 1 + ((eachR s m (k + (dec s k).2)).2.2.length : Int) = n + ((((dec s k).1 : Int) :: (eachR s m (k + (dec s k).2)).2.2).length : Int) := by rw [List.length_cons]; omega
        rw [cnd_n hw, wn, wk, ih (k + (dec s k).2) (n + 1) d2 (by omega) (by omega) (by omega), e1, e2]
    · have hg : eachR s (m + 1) k = (true, k, []) := by simp only [eachR, if_neg hlt]
      rw [cnd_n (by omega), hg]
      simp only [cnd_tt, List.length_nil, Int.natCast_zero, Int.add_zero]
theorem lps29 (F : Nat) (hF : F = FU) : LpsOk (ctx F [(61, .pure S61)]) L29 (loopsOf (body Tryd.f29)) := by
  refine lps_one (c := lp Tryd.f29 0) rfl (by kernel_rfl) fun R st K r h => ?_
  unfold T29 at h
  cases hs : shape 21 [0, 3, 4] st.slots with
  | false => rw [hs] at h; simp [Tr.run] at h
  | true =>
  rw [hs] at h
  simp only [cond_true] at h
  have he := shape_eq hs
  obtain ⟨sl0, H⟩ := st
  dsimp only at h he ⊢
  split at h
  · rename_i s n a g0 g1 g2
    simp only [List.map_cons, List.map_nil, g0, g1, g2] at he
    subst he
    simp only [Tr.run] at h
    cases hc : (decide (0 ≤ a) && decide (a ≤ s.length) && decide (s.length ≤ big) && decide (0 ≤ n) && decide (n ≤ a)) with
    | false => rw [hc] at h; simp at h
    | true =>
    rw [hc] at h
    simp only [Bool.and_eq_true, decide_eq_true_eq] at hc
    obtain ⟨⟨⟨⟨h0, h1⟩, h2⟩, h3⟩, h4⟩ := hc
    unfold big at h2
    obtain ⟨k, rfl⟩ := Int.eq_ofNat_of_zero_le h0
    refine (loop29 F s K h2 F k n (by omega) h3 h4 (by rw [hF]; unfold FU; omega)).trans ?_
    rw [← h, hF]
    rfl
  · simp [Tr.run] at h
theorem ok29 (W0 : World) : EKOk Tryd.prog W0 29 (.pure S28) := by
  refine pure_of (tyOk FU [(61, .pure S61)]) (look_ok (all_cons (ok61 W0) all_nil)) mixed fn29 (lps29 FU rfl) fun args r h => ?_
  unfold S28 at h
  split at h
  · rename_i s
    refine (run29 FU s).trans ?_
    rw [← h]
    simp only [Tr.val_chk, chk_some, decide_eq_true_eq] at h
    have h0 := h.1
    simp only [Tr.val_ok, Tr.val_cnd, Tr.val_chk, Int.zero_add]
    rw [chk_p h0, chk_t (by simp [h0])]
    unfold runesN okR runesR
    have e : Int.toNat 0 = 0 := rfl
    rw [e]
    cases (eachR s FU 0).1 <;> rfl
  · simp [Tr.val_no] at h
theorem runesN_iff (s : List UInt8) : (runesN s ≥ 0) ↔ okR s = true := by
  have hl : (0 : Int) ≤ (runesR s).length := by omega
  unfold runesN; split <;> simp_all
theorem ok50 (W0 : World) : EKOk Tryd.prog W0 50 (.pure S50) := by
  refine pure_of (tyOk 0 [(29, .pure S28)]) (look_ok (all_cons (ok29 W0) all_nil)) mixed fn50 (lpsOk_no _ _) fun args r h => ?_
  unfold S50 at h
  split at h
  · rename_i k n s
    refine (run50 0 k n s).trans ?_
    rw [← h]
    simp only [Tr.val_chk, chk_some, decide_eq_true_eq] at h
    have hr := runesN_iff s
    have h40 : ((s.length : Int) ≤ 40) ↔ s.length ≤ 40 := by omega
    have hd : decide (runesN s ≥ 0) = okR s := by rw [Bool.eq_iff_iff, decide_eq_true_eq]; exact hr
    simp only [Tr.val_ok, Tr.val_cnd, Tr.val_chk, cnd_i, chk_i, decide_eq_true_eq, hd, h40, h.1, rightR]
    by_cases c1 : k = 1 <;> by_cases c2 : s = [] <;> by_cases c3 : k = 2 <;> by_cases c4 : n = 0 <;> by_cases c5 : s.length ≤ 40 <;> simp [c1, c2, c3, c4, c5] <;> simp_all
  · simp [Tr.val_no] at h
theorem ok24 (W0 : World) : EKOk Tryd.prog W0 24 (.pure S24) := by
  refine pure_of (tyOk 0 [(29, .pure S28), (52, .pure S52)]) (look_ok (all_cons (ok29 W0) (all_cons (ok52 W0) all_nil))) mixed fn24 (lpsOk_no _ _) fun args r h => ?_
  unfold S24 at h
  split at h
  · rename_i s
    refine (run24 0 s).trans ?_
    rw [← h]
    simp only [Tr.val_chk, chk_some, decide_eq_true_eq] at h
    have hr := runesN_iff s
    simp only [Tr.val_ok, Tr.val_cnd, Tr.val_chk]
    simp only [chk_p h.1]
    cases ho : okR s with
    | true => rw [ho] at hr; rw [cnd_n (by have := hr.2 rfl; omega), cnd_tt]
    | false => rw [ho] at hr; rw [cnd_p (by rcases Int.lt_or_le (runesN s) 0 with h | h; exact h; exact absurd (hr.1 h) (by simp)), cnd_ff]
  · simp [Tr.val_no] at h
end Go.PS
end
