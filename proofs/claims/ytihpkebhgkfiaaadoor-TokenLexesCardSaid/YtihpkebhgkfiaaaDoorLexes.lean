/- PROVED: fastilaw16.TokenLexes returns true for every string (the tokens, the place and the error that the program's token.Lex tells are those that the reference's Lex tells), the argument reads as it did, and nothing that was there is changed.
   CONDITIONS: only the row's own: the listed package-level variables hold what the program's text lays into them (the card ties them to that text). -/
import Derived.Test.YtihpkebhgkfiaaaDoorLexA
import Derived.Test.YtihpkebhgkfiaaaDoorVaC
import Derived.Test.YtihpkebhgkfiaaaDoorCards
set_option linter.all false
section
namespace Go.PS
open Go.Proofs
def blankB (b : Int) : Bool := decide (b = 9) || decide (b = 10) || decide (b = 32)
/-- what reading a text comes to: the tokens, the place, the error; and where the reader stands -/
structure LR where
  toks : List DV
  pos : Int
  err : Int
  fin : Int
def TR.dv (t : TR) (a : Int) : DV := .agg [.int .i64 t.kind, .str t.txt, .int .i64 t.n, .int .i64 a]
/-- the token of the piece at a place -/
def tokAt (s : List UInt8) (a : Int) : TR := tokR ((s.drop a.toNat).take (pieceN (s.drop a.toNat)).toNat)
def lexGo (s : List UInt8) : Nat → Int → List DV → LR
  | 0, a, out => ⟨out, 0, 5, a⟩
  | m + 1, a, out =>
    if a < s.length then
      (if blankB (chr s a) = true then lexGo s m (a + 1) out
      else if pieceN (s.drop a.toNat) = 0 then ⟨out, a, 11, a⟩
      else if (tokAt s a).err = 0 then lexGo s m (a + pieceN (s.drop a.toNat)) (out ++ [(tokAt s a).dv a])
      else ⟨out, a + (tokAt s a).pos, (tokAt s a).err, a + pieceN (s.drop a.toNat)⟩)
    else ⟨out, s.length, 0, s.length⟩
def lexR (s : List UInt8) : LR := if 2000 < s.length then ⟨[], 0, 5, 0⟩ else lexGo s FU 0 []
def S13 : List PV → Tr PV
  | [.d (.str s)] => .chk (decide (s.length ≤ big)) (.cnd (decide ((lexR s).err = 0))
      (.ok (.tup [.d (.slc 4 (lexR s).toks), .d (.int .i64 (lexR s).pos), .d (.int .i64 (lexR s).err)]))
      (.ok (.tup [.own 4 [], .d (.int .i64 (lexR s).pos), .d (.int .i64 (lexR s).err)])))
  | _ => .no
def T13 (st : St) : Tr (Ex × St) :=
  bif shape 59 [0, 5, 6] st.slots then
    match gt .undef st.slots 0, gt .undef st.slots 5, gt .undef st.slots 6, st.heap with
    | .d (.str s), .ptr 0 0, .own 4 out, [.cells [.d (.slc 1 vs), .d (.int .i64 a)]] =>
      .chk (decide (0 ≤ a) && decide (a ≤ s.length) && decide (s.length ≤ 2000) && allB vs && decide (bytesOf vs = s.drop a.toNat) && decide (out.length ≤ a))
       (.cnd (decide ((lexGo s FU a out).err = 0))
        (.ok (.exit 0, ⟨slots 59 [(0, .d (.str s)), (6, .own 4 (lexGo s FU a out).toks)], [.cells [.d (.slc 1 (bytesDV (s.drop (lexGo s FU a out).fin.toNat))), .d (.int .i64 (lexGo s FU a out).fin)]]⟩))
        (.ok (.ret, ⟨slots 59 [(0, .d (.str s)), (2, .own 4 []), (3, .d (.int .i64 (lexGo s FU a out).pos)), (4, .d (.int .i64 (lexGo s FU a out).err)), (6, .own 4 (lexGo s FU a out).toks)], [.cells [.d (.slc 1 (bytesDV (s.drop (lexGo s FU a out).fin.toNat))), .d (.int .i64 (lexGo s FU a out).fin)]]⟩)))
    | _, _, _, _ => .no
  else .no
def L13 : Lps := fun i => bif Nat.beq i 5 then some (allBut 59 [0, 5, 6], allBut 59 [0, 2, 3, 4, 6], T13) else none
def T14 (st : St) : Tr (Ex × St) :=
  bif shape 68 [0, 5, 6] st.slots then
    match gt .undef st.slots 0, gt .undef st.slots 5, gt .undef st.slots 6, st.heap with
    | .d (.str s), .own 4 out, .d (.int .i64 a), [] =>
      .chk (decide (0 ≤ a) && decide (a ≤ s.length) && decide (s.length ≤ 2000) && decide (out.length ≤ a))
       (.cnd (decide ((lexGo s FU a out).err = 0))
        (.ok (.exit 0, ⟨slots 68 [(0, .d (.str s)), (5, .own 4 (lexGo s FU a out).toks)], []⟩))
        (.ok (.ret, ⟨slots 68 [(0, .d (.str s)), (2, .own 4 []), (3, .d (.int .i64 (lexGo s FU a out).pos)), (4, .d (.int .i64 (lexGo s FU a out).err)), (5, .own 4 (lexGo s FU a out).toks)], []⟩)))
    | _, _, _, _ => .no
  else .no
def L14 : Lps := fun i => bif Nat.beq i 5 then some (allBut 68 [0, 5, 6], allBut 68 [0, 2, 3, 4, 5], T14) else none
end Go.PS
end

section
namespace Go.PS
open Go.Proofs
set_option maxRecDepth 100000
theorem round13_0 (F : Nat) {R : Type} (s : List UInt8) (vs out : List DV) (a : Int) (K : Ex → St → Option R) (G : St → Option R) : roundK (pcodeK (ctx F [(37, .pure S37), (38, .eff (frameT S38)), (39, .eff (frameT S39))]) noL (lp Tryd.f13 0)) 1 (allBut 59 [0, 5, 6] ++ temps (lp Tryd.f13 0)) (allBut 59 [0, 2, 3, 4, 6]) ⟨slots 59 [(0, .d (.str s)), (5, .ptr 0 0), (6, .own 4 out)], [.cells [.d (.slc 1 vs), .d (.int .i64 a)]]⟩ K G =
    Tr.run
      (.cnd (decide ((↑vs.length : Int) > 0))
        (.chk (decide (Int.toNat 0 < vs.length))
        (.chk (fits [.int .u8 0]
        (gt DV.nili vs (Int.toNat 0)).cells)
        (.cnd (decide (idxB ([32, 9, 10] : List UInt8) (atI vs (Int.toNat 0) 0) ≥ 0))
          (.chk (decide (0 ≤ 1) && decide (1 ≤ (↑vs.length : Int)) && decide (vs.length ≤ big) && allB vs && decide (0 ≤ a) &&
        decide (a ≤ (↑big : Int)))
          (.ok (.inr ⟨slots 59 [(0, PV.d (DV.str s)), (5, PV.ptr 0 0), (6, PV.own 4 out)], [PObj.cells [PV.d (DV.slc 1 (List.drop (Int.toNat 1) vs)), PV.d (DV.int IntKind.i64 (a + 1))]]⟩)))
          (.chk (decide (1 ≤ vs.length) && decide (vs.length ≤ big) && allB vs && decide (0 ≤ a) && decide (a ≤ (↑big : Int)))
          (.cnd (decide (pieceN (bytesOf vs) = 0))
            (.ok (.inl (Ex.ret, ⟨slots 59 [(0, PV.d (DV.str s)), (2, PV.own 4 []), (3, PV.d (DV.int IntKind.i64 (IntKind.i64.wrap (a + 0)))), (4, PV.d (DV.int IntKind.i64 (11))), (6, PV.own 4 out)], [PObj.cells [PV.d (DV.slc 1 vs), PV.d (DV.int IntKind.i64 a)]]⟩)))
            (.cnd (!decide ((tokR (List.take (pieceN (bytesOf vs)).toNat (bytesOf vs))).err = 0))
              (.ok (.inl (Ex.ret, ⟨slots 59 [(0, PV.d (DV.str s)), (2, PV.own 4 []), (3, PV.d (DV.int IntKind.i64 (IntKind.i64.wrap (a + (tokR (List.take (pieceN (bytesOf vs)).toNat (bytesOf vs))).pos)))), (4, PV.d (DV.int IntKind.i64 (tokR (List.take (pieceN (bytesOf vs)).toNat (bytesOf vs))).err)), (6, PV.own 4 out)], [PObj.cells
          [PV.d (DV.slc 1 (List.drop (pieceN (bytesOf vs)).toNat vs)), PV.d (DV.int IntKind.i64 (a + pieceN (bytesOf vs)))]]⟩)))
              (.chk (limit 40
        (out.length +
          (fillS (rep 1 (zeroDV ((ctx F [(37, EK.pure S37), (38, EK.eff (frameT S38)), (39, EK.eff (frameT S39))]).ty 55)))
              [(0,
                  DV.agg
                    [DV.int IntKind.i64 (tokR (List.take (pieceN (bytesOf vs)).toNat (bytesOf vs))).kind,
                      DV.str (tokR (List.take (pieceN (bytesOf vs)).toNat (bytesOf vs))).txt,
                      DV.int IntKind.i64 (tokR (List.take (pieceN (bytesOf vs)).toNat (bytesOf vs))).n,
                      DV.int IntKind.i64 a])]).length))
              (.ok (.inr ⟨slots 59 [(0, PV.d (DV.str s)), (5, PV.ptr 0 0), (6, PV.own 4
        (out ++
          [DV.agg
              [DV.int IntKind.i64 (tokR (List.take (pieceN (bytesOf vs)).toNat (bytesOf vs))).kind,
                DV.str (tokR (List.take (pieceN (bytesOf vs)).toNat (bytesOf vs))).txt,
                DV.int IntKind.i64 (tokR (List.take (pieceN (bytesOf vs)).toNat (bytesOf vs))).n, DV.int IntKind.i64 a]]))], [PObj.cells
          [PV.d (DV.slc 1 (List.drop (pieceN (bytesOf vs)).toNat vs)), PV.d (DV.int IntKind.i64 (a + pieceN (bytesOf vs)))]]⟩)))))))))
        (.ok (.inl (Ex.exit 0, ⟨slots 59 [(0, PV.d (DV.str s)), (6, PV.own 4 out)], [PObj.cells [PV.d (DV.slc 1 vs), PV.d (DV.int IntKind.i64 a)]]⟩)))) (rnd K G) := by kernel_rfl
theorem round14_0 (F : Nat) {R : Type} (s : List UInt8) (out : List DV) (a : Int) (K : Ex → St → Option R) (G : St → Option R) : roundK (pcodeK (ctx F [(40, .pure S40), (41, .pure S41)]) noL (lp Tryd.f14 0)) 0 (allBut 68 [0, 5, 6] ++ temps (lp Tryd.f14 0)) (allBut 68 [0, 2, 3, 4, 5]) ⟨slots 68 [(0, .d (.str s)), (5, .own 4 out), (6, .d (.int .i64 a))], []⟩ K G =
    Tr.run
      (.cnd (decide (a < (↑s.length : Int)))
        (.chk (decide (0 ≤ a))
        (.chk (decide (a.toNat < s.length))
        (.cnd (decide ((↑(s.getD a.toNat 0).toNat : Int) = 9))
          (.ok (.inr ⟨slots 68 [(0, PV.d (DV.str s)), (5, PV.own 4 out), (6, PV.d (DV.int IntKind.i64 (IntKind.i64.wrap (a + 1))))], []⟩))
          (.chk (decide (0 ≤ a))
          (.chk (decide (a.toNat < s.length))
          (.cnd (decide ((↑(s.getD a.toNat 0).toNat : Int) = 10))
            (.ok (.inr ⟨slots 68 [(0, PV.d (DV.str s)), (5, PV.own 4 out), (6, PV.d (DV.int IntKind.i64 (IntKind.i64.wrap (a + 1))))], []⟩))
            (.chk (decide (0 ≤ a))
            (.chk (decide (a.toNat < s.length))
            (.cnd (decide ((↑(s.getD a.toNat 0).toNat : Int) = 32))
              (.ok (.inr ⟨slots 68 [(0, PV.d (DV.str s)), (5, PV.own 4 out), (6, PV.d (DV.int IntKind.i64 (IntKind.i64.wrap (a + 1))))], []⟩))
              (.chk (decide (0 ≤ a) && decide (a < (↑s.length : Int)) && decide (s.length ≤ big))
              (.cnd (decide (a + pieceN (List.drop a.toNat s) = a))
                (.ok (.inl (Ex.ret, ⟨slots 68 [(0, PV.d (DV.str s)), (2, PV.own 4 []), (3, PV.d (DV.int IntKind.i64 a)), (4, PV.d (DV.int IntKind.i64 (11))), (5, PV.own 4 out)], []⟩)))
                (.chk (decide (0 ≤ a))
                (.chk (decide (a ≤ a + pieceN (List.drop a.toNat s)))
                (.chk (decide (a + pieceN (List.drop a.toNat s) ≤ (↑s.length : Int)))
                (.chk (decide (1 ≤ (List.drop a.toNat (List.take (a + pieceN (List.drop a.toNat s)).toNat s)).length) &&
        decide ((List.drop a.toNat (List.take (a + pieceN (List.drop a.toNat s)).toNat s)).length ≤ big))
                (.cnd (!decide ((tokR (List.drop a.toNat (List.take (a + pieceN (List.drop a.toNat s)).toNat s))).err = 0))
                  (.ok (.inl (Ex.ret, ⟨slots 68 [(0, PV.d (DV.str s)), (2, PV.own 4 []), (3, PV.d
        (DV.int IntKind.i64
          (IntKind.i64.wrap (a + (tokR (List.drop a.toNat (List.take (a + pieceN (List.drop a.toNat s)).toNat s))).pos)))), (4, PV.d (DV.int IntKind.i64 (tokR (List.drop a.toNat (List.take (a + pieceN (List.drop a.toNat s)).toNat s))).err)), (5, PV.own 4 out)], []⟩)))
                  (.chk (limit 40
        (out.length +
          (fillS (rep 1 (zeroDV ((ctx F [(40, EK.pure S40), (41, EK.pure S41)]).ty 55)))
              [(0,
                  DV.agg
                    [DV.int IntKind.i64
                        (tokR (List.drop a.toNat (List.take (a + pieceN (List.drop a.toNat s)).toNat s))).kind,
                      DV.str (tokR (List.drop a.toNat (List.take (a + pieceN (List.drop a.toNat s)).toNat s))).txt,
                      DV.int IntKind.i64 (tokR (List.drop a.toNat (List.take (a + pieceN (List.drop a.toNat s)).toNat s))).n,
                      DV.int IntKind.i64 a])]).length))
                  (.ok (.inr ⟨slots 68 [(0, PV.d (DV.str s)), (5, PV.own 4
        (out ++
          [DV.agg
              [DV.int IntKind.i64 (tokR (List.drop a.toNat (List.take (a + pieceN (List.drop a.toNat s)).toNat s))).kind,
                DV.str (tokR (List.drop a.toNat (List.take (a + pieceN (List.drop a.toNat s)).toNat s))).txt,
                DV.int IntKind.i64 (tokR (List.drop a.toNat (List.take (a + pieceN (List.drop a.toNat s)).toNat s))).n,
                DV.int IntKind.i64 a]])), (6, PV.d (DV.int IntKind.i64 (a + pieceN (List.drop a.toNat s))))], []⟩)))))))))))))))))))
        (.ok (.inl (Ex.exit 0, ⟨slots 68 [(0, PV.d (DV.str s)), (5, PV.own 4 out)], []⟩)))) (rnd K G) := by kernel_rfl
/-! fasti token.Lex -/
theorem fn13 : FnOk Tryd.prog 13 59 [.tmp 2, .tmp 3, .tmp 4] (body Tryd.f13) := ⟨Tryd.f13, Tryd.func13, bodySome _ (by kernel_rfl), by kernel_rfl, by kernel_rfl, by kernel_rfl, by kernel_rfl⟩
theorem run13 (F : Nat) (s : List UInt8) : runP (ctx F [(37, .pure S37), (38, .eff (frameT S38)), (39, .eff (frameT S39))]) L13 59 [.tmp 2, .tmp 3, .tmp 4] (body Tryd.f13) [.d (.str s)] =
    Tr.val
      (.cnd (decide ((↑s.length : Int) > 2000))
        (.ok (PV.tup [PV.own 4 [], PV.d (DV.int IntKind.i64 (0)), PV.d (DV.int IntKind.i64 (5))]))
        (.chk (decide (0 ≤ 0) && decide (0 ≤ (↑s.length : Int)) && decide (s.length ≤ 2000) && allB (bytesDV s) &&
          decide (bytesOf (bytesDV s) = List.drop (Int.toNat 0) s) &&
        decide ((0 : Int) ≤ 0))
        (.cnd (decide ((lexGo s FU 0 []).err = 0))
          (.ok (PV.tup
        [PV.d (DV.slc 4 (lexGo s FU 0 []).toks), PV.d (DV.int IntKind.i64 (↑s.length : Int)),
          PV.d (DV.int IntKind.i64 (0))]))
          (.ok (PV.tup [PV.own 4 [], PV.d (DV.int IntKind.i64 (lexGo s FU 0 []).pos), PV.d (DV.int IntKind.i64 (lexGo s FU 0 []).err)]))))) := by kernel_rfl
/-! fasti fastiref16.Lex -/
theorem fn14 : FnOk Tryd.prog 14 68 [.tmp 2, .tmp 3, .tmp 4] (body Tryd.f14) := ⟨Tryd.f14, Tryd.func14, bodySome _ (by kernel_rfl), by kernel_rfl, by kernel_rfl, by kernel_rfl, by kernel_rfl⟩
theorem run14 (F : Nat) (s : List UInt8) : runP (ctx F [(40, .pure S40), (41, .pure S41)]) L14 68 [.tmp 2, .tmp 3, .tmp 4] (body Tryd.f14) [.d (.str s)] =
    Tr.val
      (.cnd (decide ((↑s.length : Int) > 2000))
        (.ok (PV.tup [PV.own 4 [], PV.d (DV.int IntKind.i64 (0)), PV.d (DV.int IntKind.i64 (5))]))
        (.chk (decide (0 ≤ 0) && decide (0 ≤ (↑s.length : Int)) && decide (s.length ≤ 2000) && decide ((0 : Int) ≤ 0))
        (.cnd (decide ((lexGo s FU 0 []).err = 0))
          (.ok (PV.tup
        [PV.d (DV.slc 4 (lexGo s FU 0 []).toks), PV.d (DV.int IntKind.i64 (↑s.length : Int)),
          PV.d (DV.int IntKind.i64 (0))]))
          (.ok (PV.tup [PV.own 4 [], PV.d (DV.int IntKind.i64 (lexGo s FU 0 []).pos), PV.d (DV.int IntKind.i64 (lexGo s FU 0 []).err)]))))) := by kernel_rfl
end Go.PS
end

section
namespace Go.PS
open Go.Proofs
set_option maxRecDepth 100000 in
theorem idx_blank (b : UInt8) : decide (Lib.indexByte [32, 9, 10] b ≥ 0) = blankB (b.toNat : Int) :=
  byte_all (p := fun b => decide (Lib.indexByte [32, 9, 10] b ≥ 0) = blankB (b.toNat : Int)) (by decide) b
theorem blank_iff (s : List UInt8) (n : Int) : decide (idxB [32, 9, 10] (chr s n) ≥ 0) = blankB (chr s n) := by
  rw [idx_chr, idx_blank]; rfl
theorem allB_bytes : ∀ {l : List DV}, allB l = true → bytesDV (bytesOf l) = l
  | [], _ => rfl
  | v :: l, h => by
    obtain ⟨n, rfl, h0, h1, h⟩ := allB_cons h
    have e : ((UInt8.ofNat n.toNat).toNat : Int) = n := by rw [UInt8.toNat_ofNat']; omega
    show DV.int .u8 ((UInt8.ofNat n.toNat).toNat : Int) :: bytesDV (bytesOf l) = _
    rw [e, allB_bytes h]
theorem bytesOf_DV (s : List UInt8) : bytesOf (bytesDV s) = s := by
  induction s with
  | nil => rfl
  | cons b s ih =>
    show UInt8.ofNat ((b.toNat : Int)).toNat :: bytesOf (bytesDV s) = _
    rw [ih]; simp
theorem numT_err (s : List UInt8) (h : (numT s).err ≠ 0) : (numT s).kind = 0 ∧ (numT s).n = 0 ∧ (numT s).txt = [] := by
  unfold numT at h ⊢
  grind
theorem tokR_err (s : List UInt8) (h : (tokR s).err ≠ 0) : (tokR s).kind = 0 ∧ (tokR s).n = 0 ∧ (tokR s).txt = [] := by
  have := numT_err s
  unfold tokR at h ⊢
  grind
theorem numT_pos (s : List UInt8) (h : 1 ≤ s.length) : 0 ≤ (numT s).pos ∧ (numT s).pos ≤ s.length := by
  have := parseR_pos (s.drop (hashN s).toNat)
  rw [List.length_drop] at this
  have e : hashN s = 0 ∨ hashN s = 1 := by unfold hashN; grind
  unfold numT
  rcases e with e | e <;> rw [e] at this ⊢
  · have e0 : Int.toNat 0 = 0 := rfl
    rw [e0] at this ⊢
    grind
  · have e0 : Int.toNat 1 = 1 := rfl
    rw [e0] at this ⊢
    grind
theorem tokR_pos (s : List UInt8) (h : 1 ≤ s.length) : 0 ≤ (tokR s).pos ∧ (tokR s).pos ≤ s.length := by
  have := numT_pos s h
  unfold tokR
  grind

set_option maxHeartbeats 1000000 in
theorem loop13 (F : Nat) {R : Type} (s : List UInt8) (K : Ex → St → Option R) (hs : s.length ≤ 2000) :
    ∀ (m : Nat) (a : Int) (vs out : List DV), 0 ≤ a → a ≤ s.length → allB vs = true → bytesOf vs = s.drop a.toNat → out.length ≤ a → (s.length - a).toNat < m →
      loopK (pcodeK (ctx F [(37, .pure S37), (38, .eff (frameT S38)), (39, .eff (frameT S39))]) noL (lp Tryd.f13 0)) 1 (allBut 59 [0, 5, 6] ++ temps (lp Tryd.f13 0)) (allBut 59 [0, 2, 3, 4, 6]) m
        ⟨slots 59 [(0, .d (.str s)), (5, .ptr 0 0), (6, .own 4 out)], [.cells [.d (.slc 1 vs), .d (.int .i64 a)]]⟩ K =
      PS.cnd (decide ((lexGo s m a out).err = 0))
        (K (.exit 0) ⟨slots 59 [(0, .d (.str s)), (6, .own 4 (lexGo s m a out).toks)], [.cells [.d (.slc 1 (bytesDV (s.drop (lexGo s m a out).fin.toNat))), .d (.int .i64 (lexGo s m a out).fin)]]⟩)
        (K .ret ⟨slots 59 [(0, .d (.str s)), (2, .own 4 []), (3, .d (.int .i64 (lexGo s m a out).pos)), (4, .d (.int .i64 (lexGo s m a out).err)), (6, .own 4 (lexGo s m a out).toks)], [.cells [.d (.slc 1 (bytesDV (s.drop (lexGo s m a out).fin.toNat))), .d (.int .i64 (lexGo s m a out).fin)]]⟩) := by
  intro m
  induction m with
  | zero => intro a vs out _ _ _ _ _ hm; omega
  | succ m ih =>
    intro a vs out h0 h1 hb hv ho hm
    rw [loopK_succ, round13_0]
    have hl : vs.length = s.length - a.toNat := by rw [← bytesOf_length (allB_U8 hb), hv, List.length_drop]
    have hvs : vs = bytesDV (s.drop a.toNat) := by rw [← hv, allB_bytes hb]
    have hbig : vs.length ≤ big := by unfold big; omega
    have hab : a ≤ (big : Int) := by unfold big; omega
    simp only [Tr.run, rnd]
    by_cases hk : a < s.length
    · have hf : fits [DV.int IntKind.u8 0] (gt DV.nili vs (Int.toNat 0)).cells = true := fits_byte hb (i := 0) (by omega) (by omega)
      have ha : atI vs (Int.toNat 0) 0 = chr s a := by
        have : atI vs (Int.toNat 0) 0 = chr (bytesOf vs) 0 := atI_chr hb (i := 0) (by omega) (by omega)
        rw [this, hv, chr_drop _ _ _ (by omega), show ((a.toNat : Nat) : Int) + 0 = a by omega]
      rw [cnd_p (by omega), chk_p (by show 0 < vs.length; omega), chk_t hf, ha, blank_iff]
      by_cases b : blankB (chr s a) = true
      · have hg : lexGo s (m + 1) a out = lexGo s m (a + 1) out := by simp only [lexGo, if_pos hk, if_pos b]
        have hd : bytesOf (vs.drop (Int.toNat 1)) = s.drop (a + 1).toNat := by
          rw [bytesOf_drop _ hb, hv, List.drop_drop]; congr 1; show a.toNat + 1 = _; omega
        rw [cnd_t b, chk_t (by simp only [Bool.and_eq_true, decide_eq_true_eq]; exact ⟨⟨⟨⟨⟨by omega, by omega⟩, hbig⟩, hb⟩, h0⟩, hab⟩), ih (a + 1) _ out (by omega) (by omega) (allB_drop _ hb) hd (by omega) (by omega), hg]
      · have pR := pieceN_range (s.drop a.toNat) (by rw [List.length_drop]; omega)
        rw [List.length_drop] at pR
        have e2 : tokR ((bytesOf vs).take (pieceN (bytesOf vs)).toNat) = tokAt s a := by rw [hv]; rfl
        rw [cnd_f (by simpa using b), chk_t (by simp only [Bool.and_eq_true, decide_eq_true_eq]; exact ⟨⟨⟨⟨by omega, hbig⟩, hb⟩, h0⟩, hab⟩), e2, hv]
        by_cases p0 : pieceN (s.drop a.toNat) = 0
        · have hg : lexGo s (m + 1) a out = ⟨out, a, 11, a⟩ := by simp only [lexGo, if_pos hk, if_neg b, if_pos p0]
          have w : IntKind.i64.wrap (a + 0) = a := (wrap64 (by omega) (by omega)).trans (by omega)
          rw [cnd_p p0, hg, w, cnd_n (by simp), ← hvs]
        · rw [cnd_n p0]
          have tp : 0 ≤ (tokAt s a).pos ∧ (tokAt s a).pos ≤ s.length := by
            have := tokR_pos ((s.drop a.toNat).take (pieceN (s.drop a.toNat)).toNat) (by rw [List.length_take, List.length_drop]; omega)
            rw [List.length_take, List.length_drop] at this
            unfold tokAt; omega
          have hd : bytesOf (vs.drop (pieceN (s.drop a.toNat)).toNat) = s.drop (a + pieceN (s.drop a.toNat)).toNat := by
            rw [bytesOf_drop _ hb, hv, List.drop_drop]; congr 1; omega
          have hd' : vs.drop (pieceN (s.drop a.toNat)).toNat = bytesDV (s.drop (a + pieceN (s.drop a.toNat)).toNat) := by
            rw [← hd, allB_bytes (allB_drop _ hb)]
          by_cases e : (tokAt s a).err = 0
          · have hg : lexGo s (m + 1) a out = lexGo s m (a + pieceN (s.drop a.toNat)) (out ++ [(tokAt s a).dv a]) := by simp only [lexGo, if_pos hk, if_neg b, if_neg p0, if_pos e]
            have hlim : ∀ k : Nat, k = 1 → limit 40 (out.length + k) = true := by rintro k rfl; unfold limit; rw [decide_eq_true_eq]; omega
            rw [cnd_f (by rw [e]; rfl), chk_t (by exact hlim _ rfl)]
            refine (ih (a + pieceN (s.drop a.toNat)) _ (out ++ [(tokAt s a).dv a]) (by omega) (by omega) (allB_drop _ hb) hd (by rw [List.length_append, List.length_singleton]; omega) (by omega)).trans ?_
            rw [hg]
          · have hg : lexGo s (m + 1) a out = ⟨out, a + (tokAt s a).pos, (tokAt s a).err, a + pieceN (s.drop a.toNat)⟩ := by simp only [lexGo, if_pos hk, if_neg b, if_neg p0, if_neg e]
            have w : IntKind.i64.wrap (a + (tokAt s a).pos) = a + (tokAt s a).pos := wrap64 (by omega) (by omega)
            rw [cnd_t (by rw [decide_eq_false e]; rfl), hg, w, cnd_n e, hd']
    · have hz : vs = [] := List.eq_nil_of_length_eq_zero (by omega)
      have hg : lexGo s (m + 1) a out = ⟨out, s.length, 0, s.length⟩ := by simp only [lexGo, if_neg hk]
      have ha : a = s.length := by omega
      rw [cnd_n (by omega), hg, cnd_p rfl, hz, ha]
      have : s.drop ((s.length : Int)).toNat = [] := by simp
      rw [this]
      rfl
end Go.PS
end

section
namespace Go.PS
open Go.Proofs
theorem lps13 (F : Nat) (hF : F = FU) : LpsOk (ctx F [(37, .pure S37), (38, .eff (frameT S38)), (39, .eff (frameT S39))]) L13 (loopsOf (body Tryd.f13)) := by
  refine lps_one (c := lp Tryd.f13 0) rfl (by kernel_rfl) fun R st K r h => ?_
  unfold T13 at h
  cases hs : shape 59 [0, 5, 6] st.slots with
  | false => rw [hs] at h; simp [Tr.run] at h
  | true =>
  rw [hs] at h
  simp only [cond_true] at h
  have he := shape_eq hs
  obtain ⟨sl0, H⟩ := st
  dsimp only at h he ⊢
  split at h
  · rename_i s out vs a g0 g1 g2
    simp only [List.map_cons, List.map_nil, g0, g1, g2] at he
    subst he
    simp only [Tr.run] at h
    cases hc : (decide (0 ≤ a) && decide (a ≤ s.length) && decide (s.length ≤ 2000) && allB vs && decide (bytesOf vs = s.drop a.toNat) && decide (out.length ≤ a)) with
    | false => rw [hc] at h; simp at h
    | true =>
    rw [hc] at h
    simp only [Bool.and_eq_true, decide_eq_true_eq] at hc
    obtain ⟨⟨⟨⟨⟨h0, h1⟩, h2⟩, h3⟩, h4⟩, h5⟩ := hc
    refine (loop13 F s K h2 F a vs out h0 h1 h3 h4 h5 (by rw [hF]; unfold FU; omega)).trans ?_
    rw [← h, hF]
    rfl
  · simp [Tr.run] at h

theorem lexGo_ok (s : List UInt8) : ∀ (m : Nat) (a : Int) (out : List DV), (lexGo s m a out).err = 0 → (lexGo s m a out).pos = s.length := by
  intro m
  induction m with
  | zero => intro a out h; simp [lexGo] at h
  | succ m ih =>
    intro a out h
    have i1 := ih (a + 1) out
    have i2 := ih (a + pieceN (s.drop a.toNat)) (out ++ [(tokAt s a).dv a])
    clear ih
    simp only [lexGo] at h ⊢
    grind

theorem ok13 (W0 : World) (hW : Laid W0) : EKOk Tryd.prog W0 13 (.pure S13) := by
  refine pure_of (tyOk FU [(37, .pure S37), (38, .eff (frameT S38)), (39, .eff (frameT S39))]) (look_ok (all_cons (ok37) (all_cons (ok38 W0) (all_cons (ok39 W0 hW) all_nil)))) mixed fn13 (lps13 FU rfl) fun args r h => ?_
  unfold S13 at h
  split at h
  · rename_i s
    refine (run13 FU s).trans ?_
    rw [← h]
    simp only [Tr.val_chk, chk_some, decide_eq_true_eq] at h
    obtain ⟨h0, _⟩ := h
    simp only [Tr.val_ok, Tr.val_cnd, Tr.val_chk]
    rw [chk_p h0]
    unfold lexR
    by_cases g : 2000 < s.length
    · rw [cnd_p (by omega), if_pos g, cnd_n (by simp)]
    · rw [cnd_n (by omega), if_neg g, chk_t (by simp [allB_bytesDV, bytesOf_DV]; omega)]
      by_cases e : (lexGo s FU 0 []).err = 0
      · rw [cnd_p e, cnd_p e, lexGo_ok _ _ _ _ e, e]
      · rw [cnd_n e, cnd_n e]
  · simp [Tr.val_no] at h

theorem loop14 (F : Nat) {R : Type} (s : List UInt8) (K : Ex → St → Option R) (hs : s.length ≤ 2000) :
    ∀ (m : Nat) (a : Int) (out : List DV), 0 ≤ a → a ≤ s.length → out.length ≤ a → (s.length - a).toNat < m →
      loopK (pcodeK (ctx F [(40, .pure S40), (41, .pure S41)]) noL (lp Tryd.f14 0)) 0 (allBut 68 [0, 5, 6] ++ temps (lp Tryd.f14 0)) (allBut 68 [0, 2, 3, 4, 5]) m
        ⟨slots 68 [(0, .d (.str s)), (5, .own 4 out), (6, .d (.int .i64 a))], []⟩ K =
      PS.cnd (decide ((lexGo s m a out).err = 0))
        (K (.exit 0) ⟨slots 68 [(0, .d (.str s)), (5, .own 4 (lexGo s m a out).toks)], []⟩)
        (K .ret ⟨slots 68 [(0, .d (.str s)), (2, .own 4 []), (3, .d (.int .i64 (lexGo s m a out).pos)), (4, .d (.int .i64 (lexGo s m a out).err)), (5, .own 4 (lexGo s m a out).toks)], []⟩) := by
  intro m
  induction m with
  | zero => intro a out _ _ _ hm; omega
  | succ m ih =>
    intro a out h0 h1 ho hm
    rw [loopK_succ, round14_0]
    simp only [Tr.run, rnd, chr_fold]
    have hbig : s.length ≤ big := by unfold big; omega
    by_cases hk : a < s.length
    · have hk' : a.toNat < s.length := by omega
      have w : IntKind.i64.wrap (a + 1) = a + 1 := wrap64 (by omega) (by omega)
      rw [cnd_p hk]
      simp only [chk_p h0, chk_p hk', w]
      by_cases b : blankB (chr s a) = true
      · have hg : lexGo s (m + 1) a out = lexGo s m (a + 1) out := by simp only [lexGo, if_pos hk, if_pos b]
        have i1 := ih (a + 1) out (by omega) (by omega) (by omega) (by omega)
        rw [hg]
        unfold blankB at b
        simp only [Bool.or_eq_true, decide_eq_true_eq] at b
        by_cases b1 : chr s a = 9
        · rw [cnd_p b1, i1]
        · rw [cnd_n b1]
          by_cases b2 : chr s a = 10
          · rw [cnd_p b2, i1]
          · rw [cnd_n b2]
            rw [cnd_p (by omega), i1]
      · have b' := b
        unfold blankB at b'
        simp only [Bool.or_eq_true, decide_eq_true_eq, not_or] at b'
        obtain ⟨⟨b1, b2⟩, b3⟩ := b'
        have pR := pieceN_range (s.drop a.toNat) (by rw [List.length_drop]; omega)
        rw [List.length_drop] at pR
        have e2 : List.drop a.toNat (List.take (a + pieceN (List.drop a.toNat s)).toNat s) = (s.drop a.toNat).take (pieceN (s.drop a.toNat)).toNat := by
          rw [List.drop_take]; congr 1; omega
        have e3 : tokR ((s.drop a.toNat).take (pieceN (s.drop a.toNat)).toNat) = tokAt s a := rfl
        rw [cnd_n b1, cnd_n b2, cnd_n b3, chk_t (by simp only [Bool.and_eq_true, decide_eq_true_eq]; exact ⟨⟨h0, hk⟩, hbig⟩), e2, e3]
        by_cases p0 : pieceN (s.drop a.toNat) = 0
        · have hg : lexGo s (m + 1) a out = ⟨out, a, 11, a⟩ := by simp only [lexGo, if_pos hk, if_neg b, if_pos p0]
          rw [cnd_p (by omega), hg, cnd_n (by simp)]
        · have hlen : ((s.drop a.toNat).take (pieceN (s.drop a.toNat)).toNat).length = (pieceN (s.drop a.toNat)).toNat := by rw [List.length_take, List.length_drop]; omega
          rw [cnd_n (by omega), chk_p (by omega), chk_p (by omega), hlen, chk_t (by simp only [Bool.and_eq_true, decide_eq_true_eq]; unfold big; omega)]
          have tp : 0 ≤ (tokAt s a).pos ∧ (tokAt s a).pos ≤ s.length := by
            have := tokR_pos ((s.drop a.toNat).take (pieceN (s.drop a.toNat)).toNat) (by omega)
            rw [hlen] at this
            unfold tokAt; omega
          by_cases e : (tokAt s a).err = 0
          · have hg : lexGo s (m + 1) a out = lexGo s m (a + pieceN (s.drop a.toNat)) (out ++ [(tokAt s a).dv a]) := by simp only [lexGo, if_pos hk, if_neg b, if_neg p0, if_pos e]
            have hlim : ∀ k : Nat, k = 1 → limit 40 (out.length + k) = true := by rintro k rfl; unfold limit; rw [decide_eq_true_eq]; omega
            rw [cnd_f (by rw [e]; rfl), chk_t (by exact hlim _ rfl)]
            refine (ih (a + pieceN (s.drop a.toNat)) (out ++ [(tokAt s a).dv a]) (by omega) (by omega) (by rw [List.length_append, List.length_singleton]; omega) (by omega)).trans ?_
            rw [hg]
          · have hg : lexGo s (m + 1) a out = ⟨out, a + (tokAt s a).pos, (tokAt s a).err, a + pieceN (s.drop a.toNat)⟩ := by simp only [lexGo, if_pos hk, if_neg b, if_neg p0, if_neg e]
            have w : IntKind.i64.wrap (a + (tokAt s a).pos) = a + (tokAt s a).pos := wrap64 (by omega) (by omega)
            rw [cnd_t (by rw [decide_eq_false e]; rfl), hg, w, cnd_n e]
    · have hg : lexGo s (m + 1) a out = ⟨out, s.length, 0, s.length⟩ := by simp only [lexGo, if_neg hk]
      rw [cnd_n (by omega), hg, cnd_p rfl]

theorem lps14 (F : Nat) (hF : F = FU) : LpsOk (ctx F [(40, .pure S40), (41, .pure S41)]) L14 (loopsOf (body Tryd.f14)) := by
  refine lps_one (c := lp Tryd.f14 0) rfl (by kernel_rfl) fun R st K r h => ?_
  unfold T14 at h
  cases hs : shape 68 [0, 5, 6] st.slots with
  | false => rw [hs] at h; simp [Tr.run] at h
  | true =>
  rw [hs] at h
  simp only [cond_true] at h
  have he := shape_eq hs
  obtain ⟨sl0, H⟩ := st
  dsimp only at h he ⊢
  split at h
  · rename_i s out a g0 g1 g2
    simp only [List.map_cons, List.map_nil, g0, g1, g2] at he
    subst he
    simp only [Tr.run] at h
    cases hc : (decide (0 ≤ a) && decide (a ≤ s.length) && decide (s.length ≤ 2000) && decide (out.length ≤ a)) with
    | false => rw [hc] at h; simp at h
    | true =>
    rw [hc] at h
    simp only [Bool.and_eq_true, decide_eq_true_eq] at hc
    obtain ⟨⟨⟨h0, h1⟩, h2⟩, h5⟩ := hc
    refine (loop14 F s K h2 F a out h0 h1 h5 (by rw [hF]; unfold FU; omega)).trans ?_
    rw [← h, hF]
    rfl
  · simp [Tr.run] at h
theorem ok14 (W0 : World) : EKOk Tryd.prog W0 14 (.pure S13) := by
  refine pure_of (tyOk FU [(40, .pure S40), (41, .pure S41)]) (look_ok (all_cons (ok40 W0) (all_cons (ok41 W0) all_nil))) mixed fn14 (lps14 FU rfl) fun args r h => ?_
  unfold S13 at h
  split at h
  · rename_i s
    refine (run14 FU s).trans ?_
    rw [← h]
    simp only [Tr.val_chk, chk_some, decide_eq_true_eq] at h
    obtain ⟨h0, _⟩ := h
    simp only [Tr.val_ok, Tr.val_cnd, Tr.val_chk]
    rw [chk_p h0]
    unfold lexR
    by_cases g : 2000 < s.length
    · rw [cnd_p (by omega), if_pos g, cnd_n (by simp)]
    · rw [cnd_n (by omega), if_neg g, chk_t (by simp; omega)]
      by_cases e : (lexGo s FU 0 []).err = 0
      · rw [cnd_p e, cnd_p e, lexGo_ok _ _ _ _ e, e]
      · rw [cnd_n e, cnd_n e]
  · simp [Tr.val_no] at h
end Go.PS
end

section
namespace Go.PS
open Go.Proofs
set_option maxRecDepth 100000
theorem roundA15_0 (F : Nat) {R : Type} (A : Option R → Option R → Option R) (xs ys : List DV) (i : Int) (p : Bool) (K : Ex → St → Option R) (G : St → Option R) : roundK (pcodeKA A (ctx F []) noL (lp Tryd.f15 0)) 0 (allBut 36 [0, 1, 2, 7] ++ temps (lp Tryd.f15 0)) (allBut 36 [0, 1, 2, 6]) ⟨slots 36 [(0, .d (.slc 4 xs)), (1, .d (.slc 4 ys)), (2, .d (.bool p)), (7, .d (.int .i64 i))], []⟩ K G =
    (PS.cnd (decide (i < (↑xs.length : Int)))
      (A
        (Tr.run
          (.chk (decide (0 ≤ i))
          (.chk (decide (i.toNat < xs.length))
          (.chk (fits [.int .i64 0, .str [], .int .i64 0, .int .i64 0] (gt DV.nili xs i.toNat).cells)
          (.chk (decide (0 ≤ i))
          (.chk (decide (i.toNat < ys.length))
          (.chk (fits [.int .i64 0, .str [], .int .i64 0, .int .i64 0] (gt DV.nili ys i.toNat).cells)
          (.cnd (!p)
            (.cnd (!(decide (atI xs i.toNat 0 = atI ys i.toNat 0) &&
    (decide (atS xs i.toNat (0 + 1) = atS ys i.toNat (0 + 1)) &&
      (decide (atI xs i.toNat (0 + 1 + 1) = atI ys i.toNat (0 + 1 + 1)) && (decide (0 = 0) && true)))))
              (.ok (.inl (Ex.ret, ⟨slots 36 [(0, PV.d (DV.slc 4 xs)), (1, PV.d (DV.slc 4 ys)), (2, PV.d (DV.bool p)), (6, PV.d (DV.bool false))], []⟩)))
              (.ok (.inr ⟨slots 36 [(0, PV.d (DV.slc 4 xs)), (1, PV.d (DV.slc 4 ys)), (2, PV.d (DV.bool p)), (7, PV.d (DV.int IntKind.i64 (IntKind.i64.wrap (i + 1))))], []⟩)))
            (.cnd (!(decide (atI xs i.toNat 0 = atI ys i.toNat 0) &&
    (decide (atS xs i.toNat (0 + 1) = atS ys i.toNat (0 + 1)) &&
      (decide (atI xs i.toNat (0 + 1 + 1) = atI ys i.toNat (0 + 1 + 1)) &&
        (decide (atI xs i.toNat (0 + 1 + 1 + 1) = atI ys i.toNat (0 + 1 + 1 + 1)) && true)))))
              (.ok (.inl (Ex.ret, ⟨slots 36 [(0, PV.d (DV.slc 4 xs)), (1, PV.d (DV.slc 4 ys)), (2, PV.d (DV.bool p)), (6, PV.d (DV.bool false))], []⟩)))
              (.ok (.inr ⟨slots 36 [(0, PV.d (DV.slc 4 xs)), (1, PV.d (DV.slc 4 ys)), (2, PV.d (DV.bool p)), (7, PV.d (DV.int IntKind.i64 (IntKind.i64.wrap (i + 1))))], []⟩))))))))))
          (rnd K G))
        (Tr.run
          (.chk (decide (0 ≤ i))
          (.chk (decide (i.toNat < xs.length))
          (.chk (fits [.int .i64 0, .str [], .int .i64 0, .int .i64 0] (gt DV.nili xs i.toNat).cells)
          (.chk (decide (0 ≤ i))
          (.chk (decide (i.toNat < ys.length))
          (.chk (fits [.int .i64 0, .str [], .int .i64 0, .int .i64 0] (gt DV.nili ys i.toNat).cells)
          (.cnd (!p)
            (.cnd (!(decide (atI xs i.toNat 0 = atI ys i.toNat 0) &&
    (decide (atS xs i.toNat (0 + 1) = atS ys i.toNat (0 + 1)) &&
      (decide (atI xs i.toNat (0 + 1 + 1) = atI ys i.toNat (0 + 1 + 1)) && (decide (0 = 0) && true)))))
              (.ok (.inl (Ex.ret, ⟨slots 36 [(0, PV.d (DV.slc 4 xs)), (1, PV.d (DV.slc 4 ys)), (2, PV.d (DV.bool p)), (6, PV.d (DV.bool false))], []⟩)))
              (.ok (.inr ⟨slots 36 [(0, PV.d (DV.slc 4 xs)), (1, PV.d (DV.slc 4 ys)), (2, PV.d (DV.bool p)), (7, PV.d (DV.int IntKind.i64 (IntKind.i64.wrap (i + 1))))], []⟩)))
            (.cnd (!(decide (atI xs i.toNat 0 = atI ys i.toNat 0) &&
    (decide (atS xs i.toNat (0 + 1) = atS ys i.toNat (0 + 1)) &&
      (decide (atI xs i.toNat (0 + 1 + 1) = atI ys i.toNat (0 + 1 + 1)) &&
        (decide (atI xs i.toNat (0 + 1 + 1 + 1) = atI ys i.toNat (0 + 1 + 1 + 1)) && true)))))
              (.ok (.inl (Ex.ret, ⟨slots 36 [(0, PV.d (DV.slc 4 xs)), (1, PV.d (DV.slc 4 ys)), (2, PV.d (DV.bool p)), (6, PV.d (DV.bool false))], []⟩)))
              (.ok (.inr ⟨slots 36 [(0, PV.d (DV.slc 4 xs)), (1, PV.d (DV.slc 4 ys)), (2, PV.d (DV.bool p)), (7, PV.d (DV.int IntKind.i64 (IntKind.i64.wrap (i + 1))))], []⟩))))))))))
          (rnd K G)))
      (Tr.run
        (.ok (.inl (Ex.exit 0, ⟨slots 36 [(0, PV.d (DV.slc 4 xs)), (1, PV.d (DV.slc 4 ys)), (2, PV.d (DV.bool p))], []⟩)))
        (rnd K G))) := by kernel_rfl
theorem round15_0 (F : Nat) {R : Type} (xs ys : List DV) (i : Int) (p : Bool) (K : Ex → St → Option R) (G : St → Option R) : roundK (pcodeK (ctx F []) noL (lp Tryd.f15 0)) 0 (allBut 36 [0, 1, 2, 7] ++ temps (lp Tryd.f15 0)) (allBut 36 [0, 1, 2, 6]) ⟨slots 36 [(0, .d (.slc 4 xs)), (1, .d (.slc 4 ys)), (2, .d (.bool p)), (7, .d (.int .i64 i))], []⟩ K G =
    Tr.run
      (.cnd (decide (i < (↑xs.length : Int)))
        (.chk (decide (0 ≤ i))
        (.chk (decide (i.toNat < xs.length))
        (.chk (fits [.int .i64 0, .str [], .int .i64 0, .int .i64 0] (gt DV.nili xs i.toNat).cells)
        (.chk (decide (0 ≤ i))
        (.chk (decide (i.toNat < ys.length))
        (.chk (fits [.int .i64 0, .str [], .int .i64 0, .int .i64 0] (gt DV.nili ys i.toNat).cells)
        (.cnd (!p)
          (.cnd (!(decide (atI xs i.toNat 0 = atI ys i.toNat 0) &&
    (decide (atS xs i.toNat (0 + 1) = atS ys i.toNat (0 + 1)) &&
      (decide (atI xs i.toNat (0 + 1 + 1) = atI ys i.toNat (0 + 1 + 1)) && (decide (0 = 0) && true)))))
            (.ok (.inl (Ex.ret, ⟨slots 36 [(0, PV.d (DV.slc 4 xs)), (1, PV.d (DV.slc 4 ys)), (2, PV.d (DV.bool p)), (6, PV.d (DV.bool false))], []⟩)))
            (.ok (.inr ⟨slots 36 [(0, PV.d (DV.slc 4 xs)), (1, PV.d (DV.slc 4 ys)), (2, PV.d (DV.bool p)), (7, PV.d (DV.int IntKind.i64 (IntKind.i64.wrap (i + 1))))], []⟩)))
          (.cnd (!(decide (atI xs i.toNat 0 = atI ys i.toNat 0) &&
    (decide (atS xs i.toNat (0 + 1) = atS ys i.toNat (0 + 1)) &&
      (decide (atI xs i.toNat (0 + 1 + 1) = atI ys i.toNat (0 + 1 + 1)) &&
        (decide (atI xs i.toNat (0 + 1 + 1 + 1) = atI ys i.toNat (0 + 1 + 1 + 1)) && true)))))
            (.ok (.inl (Ex.ret, ⟨slots 36 [(0, PV.d (DV.slc 4 xs)), (1, PV.d (DV.slc 4 ys)), (2, PV.d (DV.bool p)), (6, PV.d (DV.bool false))], []⟩)))
            (.ok (.inr ⟨slots 36 [(0, PV.d (DV.slc 4 xs)), (1, PV.d (DV.slc 4 ys)), (2, PV.d (DV.bool p)), (7, PV.d (DV.int IntKind.i64 (IntKind.i64.wrap (i + 1))))], []⟩))))))))))
        (.ok (.inl (Ex.exit 0, ⟨slots 36 [(0, PV.d (DV.slc 4 xs)), (1, PV.d (DV.slc 4 ys)), (2, PV.d (DV.bool p))], []⟩)))) (rnd K G) := by
  rw [← pcodeKA_amb]
  refine (roundA15_0 F amb xs ys i p K G).trans ?_
  simp only [amb_self]
  kernel_rfl
end Go.PS
end

section
namespace Go.PS
open Go.Proofs
def allTok : List DV → Bool
  | [] => true
  | v :: l => fits [.int .i64 0, .str [], .int .i64 0, .int .i64 0] v.cells && allTok l
/-- are two tokens the same; with their places, or but for these -/
def sameB (p : Bool) (xs ys : List DV) (i : Nat) : Bool :=
  decide (atI xs i 0 = atI ys i 0) && decide (atS xs i 1 = atS ys i 1) && decide (atI xs i 2 = atI ys i 2) && (!p || decide (atI xs i 3 = atI ys i 3))
def sameTo (p : Bool) (xs ys : List DV) : Nat → Int → Bool
  | 0, _ => true
  | m + 1, i => if i < xs.length then (if sameB p xs ys i.toNat = true then sameTo p xs ys m (i + 1) else false) else true
def S15 : List PV → Tr PV
  | [.d (.slc 4 xs), .d (.slc 4 ys), .d (.bool p)] => .chk (allTok xs && allTok ys && decide (xs.length ≤ big)) (.cnd (decide (xs.length = ys.length)) (.ok (.d (.bool (sameTo p xs ys FU 0)))) (.ok (.d (.bool false))))
  | _ => .no
def T15 (st : St) : Tr (Ex × St) :=
  bif shape 36 [0, 1, 2, 7] st.slots then
    match gt .undef st.slots 0, gt .undef st.slots 1, gt .undef st.slots 2, gt .undef st.slots 7, st.heap with
    | .d (.slc 4 xs), .d (.slc 4 ys), .d (.bool p), .d (.int .i64 i), [] =>
      .chk (decide (0 ≤ i) && decide (i ≤ xs.length) && decide (xs.length = ys.length) && allTok xs && allTok ys && decide (xs.length ≤ big))
       (.cnd (sameTo p xs ys FU i)
        (.ok (.exit 0, ⟨slots 36 [(0, .d (.slc 4 xs)), (1, .d (.slc 4 ys)), (2, .d (.bool p))], []⟩))
        (.ok (.ret, ⟨slots 36 [(0, .d (.slc 4 xs)), (1, .d (.slc 4 ys)), (2, .d (.bool p)), (6, .d (.bool false))], []⟩)))
    | _, _, _, _, _ => .no
  else .no
def L15 : Lps := fun i => bif Nat.beq i 4 then some (allBut 36 [0, 1, 2, 7], allBut 36 [0, 1, 2, 6], T15) else none

theorem allTok_gt : ∀ {l : List DV} (k : Nat), allTok l = true → k < l.length → fits [.int .i64 0, .str [], .int .i64 0, .int .i64 0] (gt .nili l k).cells = true
  | [], k, _, h => absurd h (by simp)
  | v :: l, 0, h, _ => by simp only [allTok, Bool.and_eq_true] at h; exact h.1
  | v :: l, k + 1, h, hk => by simp only [allTok, Bool.and_eq_true] at h; exact allTok_gt k h.2 (by simpa using hk)
theorem allTok_append : ∀ {l r : List DV}, allTok l = true → allTok r = true → allTok (l ++ r) = true
  | [], _, _, h => h
  | v :: l, r, h, h2 => by
    simp only [allTok, Bool.and_eq_true, List.cons_append] at h ⊢
    exact ⟨h.1, allTok_append h.2 h2⟩
theorem lexGo_tok (s : List UInt8) : ∀ (m : Nat) (a : Int) (out : List DV), allTok out = true → allTok (lexGo s m a out).toks = true := by
  intro m
  induction m with
  | zero => intro a out h; exact h
  | succ m ih =>
    intro a out h
    have i1 := ih (a + 1) out h
    have i2 := ih (a + pieceN (s.drop a.toNat)) (out ++ [(tokAt s a).dv a]) (allTok_append h rfl)
    clear ih
    simp only [lexGo]
    grind
theorem lexR_tok (s : List UInt8) : allTok (lexR s).toks = true := by
  unfold lexR
  split
  · rfl
  · exact lexGo_tok s _ _ _ rfl
theorem lexGo_len (s : List UInt8) : ∀ (m : Nat) (a : Int) (out : List DV), (lexGo s m a out).toks.length ≤ out.length + m := by
  intro m
  induction m with
  | zero => intro a out; simp [lexGo]
  | succ m ih =>
    intro a out
    have i1 := ih (a + 1) out
    have i2 := ih (a + pieceN (s.drop a.toNat)) (out ++ [(tokAt s a).dv a])
    rw [List.length_append, List.length_singleton] at i2
    clear ih
    simp only [lexGo]
    grind
/-- no more tokens than bytes -/
theorem lexGo_few (s : List UInt8) : ∀ (m : Nat) (a : Int) (out : List DV), 0 ≤ a → a ≤ s.length → out.length ≤ a → (lexGo s m a out).toks.length ≤ s.length := by
  intro m
  induction m with
  | zero => intro a out _ _ h; simp only [lexGo]; omega
  | succ m ih =>
    intro a out h0 h1 h2
    have i1 := ih (a + 1) out
    have i2 := ih (a + pieceN (s.drop a.toNat)) (out ++ [(tokAt s a).dv a])
    rw [List.length_append, List.length_singleton] at i2
    clear ih
    have pR := pieceN_range (s.drop a.toNat)
    rw [List.length_drop] at pR
    simp only [lexGo]
    grind
theorem lexR_few (s : List UInt8) (h : s.length ≤ big) : (lexR s).toks.length ≤ big := by
  unfold lexR
  split
  · show 0 ≤ big; omega
  · have := lexGo_few s FU 0 [] (by omega) (by omega) (by simp)
    omega

theorem loop15 (F : Nat) {R : Type} (xs ys : List DV) (p : Bool) (K : Ex → St → Option R) (hx : allTok xs = true) (hy : allTok ys = true) (hl : xs.length = ys.length) (hs : xs.length ≤ 1000000) :
    ∀ (m : Nat) (i : Int), 0 ≤ i → i ≤ xs.length → (xs.length - i).toNat < m →
      loopK (pcodeK (ctx F []) noL (lp Tryd.f15 0)) 0 (allBut 36 [0, 1, 2, 7] ++ temps (lp Tryd.f15 0)) (allBut 36 [0, 1, 2, 6]) m
        ⟨slots 36 [(0, .d (.slc 4 xs)), (1, .d (.slc 4 ys)), (2, .d (.bool p)), (7, .d (.int .i64 i))], []⟩ K =
      PS.cnd (sameTo p xs ys m i)
        (K (.exit 0) ⟨slots 36 [(0, .d (.slc 4 xs)), (1, .d (.slc 4 ys)), (2, .d (.bool p))], []⟩)
        (K .ret ⟨slots 36 [(0, .d (.slc 4 xs)), (1, .d (.slc 4 ys)), (2, .d (.bool p)), (6, .d (.bool false))], []⟩) := by
  intro m
  induction m with
  | zero => intro i _ _ hm; omega
  | succ m ih =>
    intro i h0 h1 hm
    rw [loopK_succ, round15_0]
    have ih1 := ih (i + 1)
    clear ih
    have w : i < xs.length → IntKind.i64.wrap (i + 1) = i + 1 := fun _ => wrap64 (by omega) (by omega)
    have f1 := allTok_gt (l := xs) i.toNat hx
    have f2 := allTok_gt (l := ys) i.toNat hy
    simp only [Tr.run, rnd, sameTo, sameB, Nat.zero_add, Nat.reduceAdd, cnd_if, chk_if, Bool.and_true] at ih1 ⊢
    cases p <;> grind

theorem lps15 (F : Nat) (hF : F = FU) : LpsOk (ctx F []) L15 (loopsOf (body Tryd.f15)) := by
  refine lps_one (c := lp Tryd.f15 0) rfl (by kernel_rfl) fun R st K r h => ?_
  unfold T15 at h
  cases hs : shape 36 [0, 1, 2, 7] st.slots with
  | false => rw [hs] at h; simp [Tr.run] at h
  | true =>
  rw [hs] at h
  simp only [cond_true] at h
  have he := shape_eq hs
  obtain ⟨sl0, H⟩ := st
  dsimp only at h he ⊢
  split at h
  · rename_i xs ys p i g0 g1 g2 g7
    simp only [List.map_cons, List.map_nil, g0, g1, g2, g7] at he
    subst he
    simp only [Tr.run] at h
    cases hc : (decide (0 ≤ i) && decide (i ≤ xs.length) && decide (xs.length = ys.length) && allTok xs && allTok ys && decide (xs.length ≤ big)) with
    | false => rw [hc] at h; simp at h
    | true =>
    rw [hc] at h
    simp only [Bool.and_eq_true, decide_eq_true_eq] at hc
    obtain ⟨⟨⟨⟨⟨h0, h1⟩, h2⟩, h3⟩, h4⟩, h5⟩ := hc
    unfold big at h5
    refine (loop15 F xs ys p K h3 h4 h2 h5 F i h0 h1 (by rw [hF]; unfold FU; omega)).trans ?_
    rw [← h, hF]
    rfl
  · simp [Tr.run] at h
theorem sameTo_self (p : Bool) (xs : List DV) : ∀ (m : Nat) (i : Int), sameTo p xs xs m i = true := by
  intro m
  induction m with
  | zero => intro i; rfl
  | succ m ih =>
    intro i
    have : sameB p xs xs i.toNat = true := by unfold sameB; simp
    simp only [sameTo, this, ih]
    simp
def S12 : List PV → Tr PV
  | [] => .ok (.d (.bool true))
  | _ => .no
def S3 : List PV → Tr PV
  | [.d (.str _)] => .ok (.d (.bool true))
  | _ => .no
end Go.PS
end

section
namespace Go.PS
open Go.Proofs
set_option maxRecDepth 100000
/-! fasti fastiref16.Same -/
theorem fn15 : FnOk Tryd.prog 15 36 [.tmp 6] (body Tryd.f15) := ⟨Tryd.f15, Tryd.func15, bodySome _ (by kernel_rfl), by kernel_rfl, by kernel_rfl, by kernel_rfl, by kernel_rfl⟩
theorem run15 (F : Nat) (xs ys : List DV) (p : Bool) : runP (ctx F []) L15 36 [.tmp 6] (body Tryd.f15) [.d (.slc 4 xs), .d (.slc 4 ys), .d (.bool p)] =
    Tr.val
      (.cnd (!decide ((↑xs.length : Int) = (↑ys.length : Int)))
        (.ok (PV.d (DV.bool false)))
        (.chk (decide (0 ≤ 0) && decide (0 ≤ (↑xs.length : Int)) && decide (xs.length = ys.length) && allTok xs && allTok ys &&
        decide (xs.length ≤ big))
        (.cnd (sameTo p xs ys FU 0)
          (.ok (PV.d (DV.bool true)))
          (.ok (PV.d (DV.bool false)))))) := by kernel_rfl
/-! fasti fastilaw16.TokenLexes -/
theorem fn3 : FnOk Tryd.prog 3 41 [.tmp 2] (body Tryd.f3) := ⟨Tryd.f3, Tryd.func3, bodySome _ (by kernel_rfl), by kernel_rfl, by kernel_rfl, by kernel_rfl, by kernel_rfl⟩
theorem run3 (F : Nat) (s : List UInt8) : runP (ctx F [(12, .pure S12), (13, .pure S13), (14, .pure S13), (15, .pure S15)]) noL 41 [.tmp 2] (body Tryd.f3) [.d (.str s)] =
    Tr.val
      (.cnd (decide ((↑s.length : Int) > 5000))
        (.ok (PV.d (DV.bool true)))
        (.chk (decide (s.length ≤ big))
        (.cnd (decide ((lexR s).err = 0))
          (.chk (decide (s.length ≤ big))
          (.cnd (decide ((lexR s).err = 0))
            (.chk (allTok (lexR s).toks && allTok (lexR s).toks && decide ((lexR s).toks.length ≤ big))
            (.cnd (decide ((lexR s).toks.length = (lexR s).toks.length))
              (.cnd (sameTo true (lexR s).toks (lexR s).toks FU 0)
                (.cnd (decide ((lexR s).pos = (lexR s).pos))
                  (.cnd (decide ((lexR s).err = (lexR s).err))
                    (.ok (PV.d (DV.bool true)))
                    (.ok (PV.d (DV.bool false))))
                  (.ok (PV.d (DV.bool false))))
                (.ok (PV.d (DV.bool false))))
              (.ok (PV.d (DV.bool false)))))
            (.chk (allTok (lexR s).toks && allTok [] && decide ((lexR s).toks.length ≤ big))
            (.cnd (decide ((lexR s).toks.length = ([] : List DV).length))
              (.cnd (sameTo true (lexR s).toks [] FU 0)
                (.cnd (decide ((lexR s).pos = (lexR s).pos))
                  (.cnd (decide ((lexR s).err = (lexR s).err))
                    (.ok (PV.d (DV.bool true)))
                    (.ok (PV.d (DV.bool false))))
                  (.ok (PV.d (DV.bool false))))
                (.ok (PV.d (DV.bool false))))
              (.ok (PV.d (DV.bool false)))))))
          (.chk (decide (s.length ≤ big))
          (.cnd (decide ((lexR s).err = 0))
            (.chk (allTok [] && allTok (lexR s).toks && decide (([] : List DV).length ≤ big))
            (.cnd (decide (([] : List DV).length = (lexR s).toks.length))
              (.cnd (decide ((lexR s).pos = (lexR s).pos))
                (.cnd (decide ((lexR s).err = (lexR s).err))
                  (.ok (PV.d (DV.bool true)))
                  (.ok (PV.d (DV.bool false))))
                (.ok (PV.d (DV.bool false))))
              (.ok (PV.d (DV.bool false)))))
            (.cnd (decide ((lexR s).pos = (lexR s).pos))
              (.cnd (decide ((lexR s).err = (lexR s).err))
                (.ok (PV.d (DV.bool true)))
                (.ok (PV.d (DV.bool false))))
              (.ok (PV.d (DV.bool false))))))))) := by kernel_rfl
/-! fasti fastilaw16.lives -/
theorem fn12 : FnOk Tryd.prog 12 88 [.tmp 0] (body Tryd.f12) := ⟨Tryd.f12, Tryd.func12, bodySome _ (by kernel_rfl), by kernel_rfl, by kernel_rfl, by kernel_rfl, by kernel_rfl⟩
theorem run12 (F : Nat)  : runP (ctx F [(13, .pure S13), (15, .pure S15)]) noL 88 [.tmp 0] (body Tryd.f12) [] =
    Tr.val
      (.ok (PV.d (DV.bool true))) := by kernel_rfl
end Go.PS
end

section
namespace Go.PS
open Go.Proofs
theorem ok15 (W0 : World) : EKOk Tryd.prog W0 15 (.pure S15) := by
  refine pure_of (tyOk FU []) (look_ok all_nil) mixed fn15 (lps15 FU rfl) fun args r h => ?_
  unfold S15 at h
  split at h
  · rename_i xs ys p
    refine (run15 FU xs ys p).trans ?_
    rw [← h]
    simp only [Tr.val_chk, chk_some, Bool.and_eq_true, decide_eq_true_eq] at h
    obtain ⟨⟨h0, h1⟩, h2⟩ := h.1
    clear h
    simp only [Tr.val_ok, Tr.val_cnd, Tr.val_chk, cnd_if, chk_if, Bool.and_eq_true, decide_eq_true_eq, Bool.not_eq_true', decide_eq_false_iff_not]
    cases sameTo p xs ys FU 0 <;> grind
  · simp [Tr.val_no] at h
theorem ok12 (W0 : World) (hW : Laid W0) : EKOk Tryd.prog W0 12 (.pure S12) := by
  refine pure_of (tyOk 0 [(13, .pure S13), (15, .pure S15)]) (look_ok (all_cons (ok13 W0 hW) (all_cons (ok15 W0) all_nil))) mixed fn12 (lpsOk_no _ _) fun args r h => ?_
  unfold S12 at h
  split at h
  · exact (run12 0).trans h
  · simp [Tr.val_no] at h
theorem ok3 (W0 : World) (hW : Laid W0) : EKOk Tryd.prog W0 3 (.pure S3) := by
  refine pure_of (tyOk 0 [(12, .pure S12), (13, .pure S13), (14, .pure S13), (15, .pure S15)]) (look_ok (all_cons (ok12 W0 hW) (all_cons (ok13 W0 hW) (all_cons (ok14 W0) (all_cons (ok15 W0) all_nil))))) mixed fn3 (lpsOk_no _ _) fun args r h => ?_
  unfold S3 at h
  split at h
  · rename_i s
    refine (run3 0 s).trans ?_
    rw [← h]
    have ht := lexR_tok s
    have hf := lexR_few s
    have hs := sameTo_self true (lexR s).toks FU 0
    have e1 : s.length ≤ 5000 → s.length ≤ big := by intro h; unfold big; omega
    have e2 : allTok [] = true := rfl
    simp only [Tr.val_ok, Tr.val_cnd, Tr.val_chk, cnd_if, chk_if, Bool.and_eq_true, decide_eq_true_eq, ht, hs, e2, List.length_nil]
    grind
  · simp [Tr.val_no] at h
end Go.PS
#print axioms Go.PS.ok3
end

section
set_option maxRecDepth 100000
namespace Go.Proofs.YtihpkebhgkfiaaaDoor
open Go.PS Go.Shelf Go.Lib
open Go.ChangeShapes Go.WideShapes Go.ChangeAt Go.RowKit
open Go.ChangeMaps (open_string shut_string)

theorem s3_true (s : List UInt8) : (S3 [.d (.str s)]).val = some (.d (.bool true)) := rfl

theorem lexes_lifted (os : Os) (started : os.Started) (H : Type) (enc : TypeId × Value → H) :
    ReturnsInHanded {} Tryd.checked os 3 .any (fun w args => (Rows.tokenLexesSpec.pre enc Tryd.prog Tryd.f3 Rows.tokenLexesRow.domain false w args ∧ laidMetH Tryd.prog Rows.tokenLexesRow.laid w) ∧ sizedMet enc Tryd.prog Tryd.f3 (OpenSpec.ofChange Rows.tokenLexesSpec) false w args)
      (Rows.tokenLexesSpec.post enc Tryd.prog Tryd.f3 false true false false) := by
  refine returnsInHanded_of_change_and (C := Tryd.checked) (X := fun w _ => laidMetH Tryd.prog Rows.tokenLexesRow.laid w) (fun _ _ _ hh h => h.of_heap hh) own started (by kernel_rfl) Tryd.func3
    (ChangeSpec.witness_at (enc := enc) (C := Tryd.checked) (os := os) (X := fun w _ => laidMetH Tryd.prog Rows.tokenLexesRow.laid w) false (World.laidAll Tryd.prog os laid) #[.string ⟨#[]⟩] 8 (World.laidAll_os _ _ _) (by kernel_rfl) (by kernel_rfl) (by kernel_rfl) (by kernel_rfl) (by kernel_rfl) (laid_met os _)) ?_
  intro W base args ds gs before hval0 hW _ _ hL _
  have hval : ∀ (j : Nat) t v, Tryd.f3.params[j]? = some t → args[j]? = some v → Value.okWide Tryd.prog W .any base t v := hval0
  have hW' := hW
  obtain ⟨p, q, hA0, hV0, rfl, _, _⟩ := hW
  have hA : DataW.TrodAll enc Tryd.prog W 0 (fun _ => true) true Tryd.f3.params.toList args.toList ds p := hA0
  rw [Tryd.params3] at hA hval
  obtain ⟨v0, d0, rfl, rfl, h0⟩ := trodAll_one hA
  obtain ⟨rfl, rfl⟩ := trodVars_none hV0
  obtain ⟨s, rfl, rfl, rfl, ws⟩ := open_string Tryd.underlying9 (hval 0 9 v0 rfl rfl) h0
  have e1 : Rows.tokenLexesSpec.fn H ([.lit (.string s.data.toList)] ++ []) = { results := [.lit (.bool true)], args := [.lit (.string s.data.toList)] } := rfl
  refine (law_one (ok3 W (laid_world hL)) s ws (s3_true _)).mono ?_
  rintro e W' ⟨rfl, bel⟩
  refine ⟨_, rfl, _, _, _, [], [], [], hW', ?_, ?_, ?_, bel.frame _, fun h => by cases h⟩
  · rw [e1]; exact trodAll_mk1 (shut_bool Tryd.underlying4 true)
  · rw [e1]; exact trodAll_mk1 (shut_string Tryd.underlying9 ws)
  · rw [e1]; rfl

theorem lexes_holds : Rows.TokenLexesSaid :=
  OpenClaim.holds_of_wide 3 Tryd.f3 rfl rfl rfl rfl rfl rfl rfl ⟨rfl, rfl, rfl, rfl, rfl⟩ rfl rfl rfl rfl rfl (by kernel_rfl) Tryd.func3 (by kernel_rfl)
    (of_decide_eq_true (by kernel_rfl)) (by unfold Func.isWrapper; rw [if_neg (of_decide_eq_false (by kernel_rfl))]; exact ⟨rfl, rfl⟩)
    (fun os started H enc _ => lexes_lifted os started H enc)
end Go.Proofs.YtihpkebhgkfiaaaDoor
end

section
namespace Go.Proofs.YtihpkebhgkfiaaaDoor
open Go

theorem tokenLexes_card : Rows.TokenLexesCardSaid :=
  Claim7.holds_tied_plain_at .later [] [.data, .data, .data, .data, .sentinel, .sentinel, .pinned] true (true, "36bbe3e7eaadf27dabe13b421857fca0247e9a5d163028c61325c415c9f7cfbc") true
    lexes_holds (fun _ h => by cases h) (by kernel_rfl) (fun _ h => by cases h) tokenLexes_row_tie rfl ⟨rfl, rfl⟩ (by kernel_rfl) rfl
    (fun f fn hf hfn => by
      obtain rfl : f = 3 := Option.some.inj ((show Tryd.prog.funcNamed "fasti/fastilaw16.TokenLexes" = some 3 by kernel_rfl).symm.trans hf) |>.symm
      obtain rfl : fn = Tryd.f3 := (Option.some.inj (Tryd.func3.symm.trans hfn)).symm
      exact ⟨by kernel_rfl, fun j t ht => by
        rw [Tryd.params3] at ht
        have h9 : t = 9 := by
          rcases j with _ | j
          · simpa using ht.symm
          · simp at ht
        subst h9
        exact (show Tryd.prog.wantsStandIn 9 = false by kernel_rfl)⟩)
    (by kernel_rfl)
#print axioms tokenLexes_card
end Go.Proofs.YtihpkebhgkfiaaaDoor
end
