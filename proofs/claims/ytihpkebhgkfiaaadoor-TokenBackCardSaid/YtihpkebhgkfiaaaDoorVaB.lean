/- A part of the proof of the claim (the pure semantics PS and the contracts of the functions over it). -/
import Derived.Test.YtihpkebhgkfiaaaDoorVaA
set_option linter.all false
section
namespace Go.PS
open Go.Proofs
def T46 (st : St) : Tr (Ex × St) :=
  bif shape 103 [0, 2, 3, 4, 5, 6] st.slots then
    match gt .undef st.slots 0, gt .undef st.slots 2, gt .undef st.slots 3, gt .undef st.slots 4, gt .undef st.slots 5, gt .undef st.slots 6, st.heap with
    | .d (.str s), .ptr 0 0, .d (.int .i64 e3), .d (.int .i64 e4), .d (.str out), .d (.int .i64 a), [.cells [.d (.int .i64 k0), .d (.int .i64 n0), .d (.str t0)]] =>
      .chk (decide (0 ≤ a) && decide (a ≤ s.length) && decide (s.length ≤ big) && decide (out.length ≤ a)) (.cnd (textGo s FU a out).off
        (.ok (.exit 0, ⟨slots 103 [(0, .d (.str s)), (2, .ptr 0 0), (3, .d (.int .i64 e3)), (4, .d (.int .i64 e4))], [.cells [.d (.int .i64 k0), .d (.int .i64 n0), .d (.str t0)]]⟩))
        (.ok (.ret, ⟨slots 103 [(0, .d (.str s)), (2, .ptr 0 0), (3, .d (.int .i64 (textGo s FU a out).pos)), (4, .d (.int .i64 (textGo s FU a out).err))], [.cells [.d (.int .i64 (textGo s FU a out).kind), .d (.int .i64 (textGo s FU a out).n), .d (.str (textGo s FU a out).txt)]]⟩)))
    | _, _, _, _, _, _, _ => .no
  else .no
def L46 : Lps := fun i => bif Nat.beq i 3 then some (allBut 103 [0, 2, 3, 4, 5, 6], allBut 103 [0, 2, 3, 4], T46) else none
end Go.PS
end

section
namespace Go.PS
open Go.Proofs
set_option maxRecDepth 100000
theorem round46_0 (F : Nat) {R : Type} (s out : List UInt8) (n e3 e4 k0 n0 : Int) (t0 : List UInt8) (K : Ex → St → Option R) (G : St → Option R) : roundK (pcodeK (ctx F [(61, .pure S61), (79, .pure S79), (80, .pure S80)]) L46 (lp Tryd.f46 0)) 1 (allBut 103 [0, 2, 3, 4, 5, 6] ++ temps (lp Tryd.f46 0)) (allBut 103 [0, 2, 3, 4]) ⟨slots 103 [(0, .d (.str s)), (2, .ptr 0 0), (3, .d (.int .i64 e3)), (4, .d (.int .i64 e4)), (5, .d (.str out)), (6, .d (.int .i64 n))], [.cells [.d (.int .i64 k0), .d (.int .i64 n0), .d (.str t0)]]⟩ K G =
    Tr.run
      (.cnd (decide (n < (↑s.length : Int)))
        (.chk (decide (0 ≤ n) && decide (n + 4 < lim))
        (.chk (decide (0 ≤ n))
        (.chk (decide (n.toNat < s.length))
        (.cnd (decide ((↑(s.getD n.toNat 0).toNat : Int) = 34))
          (.cnd (decide (n = IntKind.i64.wrap ((↑s.length : Int) - 1)))
            (.cnd (decide ((↑out.length : Int) > 40))
              (.ok (.inl (Ex.ret, ⟨slots 103 [(0, PV.d (DV.str s)), (2, PV.ptr 0 0), (3, PV.d (DV.int IntKind.i64 (0))), (4, PV.d (DV.int IntKind.i64 (5)))], [PObj.cells [PV.d (DV.int IntKind.i64 (0)), PV.d (DV.int IntKind.i64 (0)), PV.d (DV.str [])]]⟩)))
              (.ok (.inl (Ex.ret, ⟨slots 103 [(0, PV.d (DV.str s)), (2, PV.ptr 0 0), (3, PV.d (DV.int IntKind.i64 (↑s.length : Int))), (4, PV.d (DV.int IntKind.i64 (0)))], [PObj.cells [PV.d (DV.int IntKind.i64 (2)), PV.d (DV.int IntKind.i64 (0)), PV.d (DV.str out)]]⟩))))
            (.chk (decide (0 ≤ n))
            (.chk (decide (n.toNat < s.length))
            (.cnd (decide ((↑(s.getD n.toNat 0).toNat : Int) = 34))
              (.ok (.inl (Ex.ret, ⟨slots 103 [(0, PV.d (DV.str s)), (2, PV.ptr 0 0), (3, PV.d (DV.int IntKind.i64 (IntKind.i64.wrap (n + 1)))), (4, PV.d (DV.int IntKind.i64 (4)))], [PObj.cells [PV.d (DV.int IntKind.i64 (0)), PV.d (DV.int IntKind.i64 (0)), PV.d (DV.str [])]]⟩)))
              (.chk (decide (0 ≤ n))
              (.chk (decide (n.toNat < s.length))
              (.cnd (decide ((↑(s.getD n.toNat 0).toNat : Int) = 92))
                (.chk (decide (0 ≤ IntKind.i64.wrap (n + 1)) && decide (IntKind.i64.wrap (n + 1) + 3 < lim))
                (.cnd (decide (escV s (IntKind.i64.wrap (n + 1)) < 0))
                  (.ok (.inl (Ex.ret, ⟨slots 103 [(0, PV.d (DV.str s)), (2, PV.ptr 0 0), (3, PV.d (DV.int IntKind.i64 (failN s (escTo s (IntKind.i64.wrap (n + 1)))))), (4, PV.d (DV.int IntKind.i64 (failE s (escTo s (IntKind.i64.wrap (n + 1))))))], [PObj.cells [PV.d (DV.int IntKind.i64 (0)), PV.d (DV.int IntKind.i64 (0)), PV.d (DV.str [])]]⟩)))
                  (.chk (decide
        (out.length +
            (bytesOf
                (fillS (rep 1 (zeroDV ((ctx F [(61, EK.pure S61), (79, EK.pure S79), (80, EK.pure S80)]).ty 5)))
                  [(0, DV.int IntKind.u8 (IntKind.u8.wrap (escV s (IntKind.i64.wrap (n + 1)))))])).length ≤
          9223372036854775807))
                  (.ok (.inr ⟨slots 103 [(0, PV.d (DV.str s)), (2, PV.ptr 0 0), (3, PV.d (DV.int IntKind.i64 e3)), (4, PV.d (DV.int IntKind.i64 e4)), (5, PV.d
        (DV.str
          (out ++
            bytesOf
              (fillS (rep 1 (zeroDV ((ctx F [(61, EK.pure S61), (79, EK.pure S79), (80, EK.pure S80)]).ty 5)))
                [(0, DV.int IntKind.u8 (IntKind.u8.wrap (escV s (IntKind.i64.wrap (n + 1)))))])))), (6, PV.d (DV.int IntKind.i64 (escTo s (IntKind.i64.wrap (n + 1)))))], [PObj.cells [PV.d (DV.int IntKind.i64 k0), PV.d (DV.int IntKind.i64 n0), PV.d (DV.str t0)]]⟩)))))
                (.cnd (decide (width s n = 0))
                  (.ok (.inl (Ex.ret, ⟨slots 103 [(0, PV.d (DV.str s)), (2, PV.ptr 0 0), (3, PV.d (DV.int IntKind.i64 n)), (4, PV.d (DV.int IntKind.i64 (4)))], [PObj.cells [PV.d (DV.int IntKind.i64 (0)), PV.d (DV.int IntKind.i64 (0)), PV.d (DV.str [])]]⟩)))
                  (.chk (decide (0 ≤ n))
                  (.chk (decide (n.toNat < s.length))
                  (.cnd (decide ((↑(s.getD n.toNat 0).toNat : Int) < 32))
                    (.ok (.inl (Ex.ret, ⟨slots 103 [(0, PV.d (DV.str s)), (2, PV.ptr 0 0), (3, PV.d (DV.int IntKind.i64 n)), (4, PV.d (DV.int IntKind.i64 (4)))], [PObj.cells [PV.d (DV.int IntKind.i64 (0)), PV.d (DV.int IntKind.i64 (0)), PV.d (DV.str [])]]⟩)))
                    (.chk (decide (0 ≤ n))
                    (.chk (decide (n.toNat < s.length))
                    (.cnd (decide ((↑(s.getD n.toNat 0).toNat : Int) = 127))
                      (.ok (.inl (Ex.ret, ⟨slots 103 [(0, PV.d (DV.str s)), (2, PV.ptr 0 0), (3, PV.d (DV.int IntKind.i64 n)), (4, PV.d (DV.int IntKind.i64 (4)))], [PObj.cells [PV.d (DV.int IntKind.i64 (0)), PV.d (DV.int IntKind.i64 (0)), PV.d (DV.str [])]]⟩)))
                      (.chk (decide (0 ≤ n))
                      (.chk (decide (n ≤ IntKind.i64.wrap (n + width s n)))
                      (.chk (decide (IntKind.i64.wrap (n + width s n) ≤ (↑s.length : Int)))
                      (.chk (decide
        (out.length + (List.drop n.toNat (List.take (IntKind.i64.wrap (n + width s n)).toNat s)).length ≤ 9223372036854775807))
                      (.ok (.inr ⟨slots 103 [(0, PV.d (DV.str s)), (2, PV.ptr 0 0), (3, PV.d (DV.int IntKind.i64 e3)), (4, PV.d (DV.int IntKind.i64 e4)), (5, PV.d (DV.str (out ++ List.drop n.toNat (List.take (IntKind.i64.wrap (n + width s n)).toNat s)))), (6, PV.d (DV.int IntKind.i64 (IntKind.i64.wrap (n + width s n))))], [PObj.cells [PV.d (DV.int IntKind.i64 k0), PV.d (DV.int IntKind.i64 n0), PV.d (DV.str t0)]]⟩))))))))))))))))))))
          (.chk (decide (0 ≤ n))
          (.chk (decide (n.toNat < s.length))
          (.cnd (decide ((↑(s.getD n.toNat 0).toNat : Int) = 34))
            (.ok (.inl (Ex.ret, ⟨slots 103 [(0, PV.d (DV.str s)), (2, PV.ptr 0 0), (3, PV.d (DV.int IntKind.i64 (IntKind.i64.wrap (n + 1)))), (4, PV.d (DV.int IntKind.i64 (4)))], [PObj.cells [PV.d (DV.int IntKind.i64 (0)), PV.d (DV.int IntKind.i64 (0)), PV.d (DV.str [])]]⟩)))
            (.chk (decide (0 ≤ n))
            (.chk (decide (n.toNat < s.length))
            (.cnd (decide ((↑(s.getD n.toNat 0).toNat : Int) = 92))
              (.chk (decide (0 ≤ IntKind.i64.wrap (n + 1)) && decide (IntKind.i64.wrap (n + 1) + 3 < lim))
              (.cnd (decide (escV s (IntKind.i64.wrap (n + 1)) < 0))
                (.ok (.inl (Ex.ret, ⟨slots 103 [(0, PV.d (DV.str s)), (2, PV.ptr 0 0), (3, PV.d (DV.int IntKind.i64 (failN s (escTo s (IntKind.i64.wrap (n + 1)))))), (4, PV.d (DV.int IntKind.i64 (failE s (escTo s (IntKind.i64.wrap (n + 1))))))], [PObj.cells [PV.d (DV.int IntKind.i64 (0)), PV.d (DV.int IntKind.i64 (0)), PV.d (DV.str [])]]⟩)))
                (.chk (decide
        (out.length +
            (bytesOf
                (fillS (rep 1 (zeroDV ((ctx F [(61, EK.pure S61), (79, EK.pure S79), (80, EK.pure S80)]).ty 5)))
                  [(0, DV.int IntKind.u8 (IntKind.u8.wrap (escV s (IntKind.i64.wrap (n + 1)))))])).length ≤
          9223372036854775807))
                (.ok (.inr ⟨slots 103 [(0, PV.d (DV.str s)), (2, PV.ptr 0 0), (3, PV.d (DV.int IntKind.i64 e3)), (4, PV.d (DV.int IntKind.i64 e4)), (5, PV.d
        (DV.str
          (out ++
            bytesOf
              (fillS (rep 1 (zeroDV ((ctx F [(61, EK.pure S61), (79, EK.pure S79), (80, EK.pure S80)]).ty 5)))
                [(0, DV.int IntKind.u8 (IntKind.u8.wrap (escV s (IntKind.i64.wrap (n + 1)))))])))), (6, PV.d (DV.int IntKind.i64 (escTo s (IntKind.i64.wrap (n + 1)))))], [PObj.cells [PV.d (DV.int IntKind.i64 k0), PV.d (DV.int IntKind.i64 n0), PV.d (DV.str t0)]]⟩)))))
              (.cnd (decide (width s n = 0))
                (.ok (.inl (Ex.ret, ⟨slots 103 [(0, PV.d (DV.str s)), (2, PV.ptr 0 0), (3, PV.d (DV.int IntKind.i64 n)), (4, PV.d (DV.int IntKind.i64 (4)))], [PObj.cells [PV.d (DV.int IntKind.i64 (0)), PV.d (DV.int IntKind.i64 (0)), PV.d (DV.str [])]]⟩)))
                (.chk (decide (0 ≤ n))
                (.chk (decide (n.toNat < s.length))
                (.cnd (decide ((↑(s.getD n.toNat 0).toNat : Int) < 32))
                  (.ok (.inl (Ex.ret, ⟨slots 103 [(0, PV.d (DV.str s)), (2, PV.ptr 0 0), (3, PV.d (DV.int IntKind.i64 n)), (4, PV.d (DV.int IntKind.i64 (4)))], [PObj.cells [PV.d (DV.int IntKind.i64 (0)), PV.d (DV.int IntKind.i64 (0)), PV.d (DV.str [])]]⟩)))
                  (.chk (decide (0 ≤ n))
                  (.chk (decide (n.toNat < s.length))
                  (.cnd (decide ((↑(s.getD n.toNat 0).toNat : Int) = 127))
                    (.ok (.inl (Ex.ret, ⟨slots 103 [(0, PV.d (DV.str s)), (2, PV.ptr 0 0), (3, PV.d (DV.int IntKind.i64 n)), (4, PV.d (DV.int IntKind.i64 (4)))], [PObj.cells [PV.d (DV.int IntKind.i64 (0)), PV.d (DV.int IntKind.i64 (0)), PV.d (DV.str [])]]⟩)))
                    (.chk (decide (0 ≤ n))
                    (.chk (decide (n ≤ IntKind.i64.wrap (n + width s n)))
                    (.chk (decide (IntKind.i64.wrap (n + width s n) ≤ (↑s.length : Int)))
                    (.chk (decide
        (out.length + (List.drop n.toNat (List.take (IntKind.i64.wrap (n + width s n)).toNat s)).length ≤ 9223372036854775807))
                    (.ok (.inr ⟨slots 103 [(0, PV.d (DV.str s)), (2, PV.ptr 0 0), (3, PV.d (DV.int IntKind.i64 e3)), (4, PV.d (DV.int IntKind.i64 e4)), (5, PV.d (DV.str (out ++ List.drop n.toNat (List.take (IntKind.i64.wrap (n + width s n)).toNat s)))), (6, PV.d (DV.int IntKind.i64 (IntKind.i64.wrap (n + width s n))))], [PObj.cells [PV.d (DV.int IntKind.i64 k0), PV.d (DV.int IntKind.i64 n0), PV.d (DV.str t0)]]⟩)))))))))))))))))))))))
        (.ok (.inl (Ex.exit 0, ⟨slots 103 [(0, PV.d (DV.str s)), (2, PV.ptr 0 0), (3, PV.d (DV.int IntKind.i64 e3)), (4, PV.d (DV.int IntKind.i64 e4))], [PObj.cells [PV.d (DV.int IntKind.i64 k0), PV.d (DV.int IntKind.i64 n0), PV.d (DV.str t0)]]⟩)))) (rnd K G) := by kernel_rfl
/-! fasti fastiref01.text -/
theorem fn46 : FnOk Tryd.prog 46 103 [.cell 2 33, .tmp 3, .tmp 4] (body Tryd.f46) := ⟨Tryd.f46, Tryd.func46, bodySome _ (by kernel_rfl), by kernel_rfl, by kernel_rfl, by kernel_rfl, by kernel_rfl⟩
theorem run46 (F : Nat) (s : List UInt8) : runP (ctx F [(61, .pure S61), (79, .pure S79), (80, .pure S80)]) L46 103 [.cell 2 33, .tmp 3, .tmp 4] (body Tryd.f46) [.d (.str s)] =
    Tr.val
      (.chk (decide (0 ≤ 1) && decide (1 ≤ (↑s.length : Int)) && decide (s.length ≤ big) &&
        decide ((↑([] : List UInt8).length : Int) ≤ 1))
      (.cnd ((textGo s FU 1 ([] : List UInt8)).off)
        (.ok (PV.tup
        [PV.d (DV.agg [DV.int IntKind.i64 (0), DV.int IntKind.i64 (0), DV.str []]),
          PV.d (DV.int IntKind.i64 (↑s.length : Int)), PV.d (DV.int IntKind.i64 (3))]))
        (.ok (PV.tup
        [PV.d
            (DV.agg
              [DV.int IntKind.i64 (textGo s FU 1 ([] : List UInt8)).kind,
                DV.int IntKind.i64 (textGo s FU 1 ([] : List UInt8)).n,
                DV.str (textGo s FU 1 ([] : List UInt8)).txt]),
          PV.d (DV.int IntKind.i64 (textGo s FU 1 ([] : List UInt8)).pos),
          PV.d (DV.int IntKind.i64 (textGo s FU 1 ([] : List UInt8)).err)])))) := by kernel_rfl
end Go.PS
end

section
namespace Go.PS
open Go.Proofs

def ext46 {R : Type} (K : Ex → St → Option R) (s : List UInt8) (e3 e4 k0 n0 : Int) (t0 : List UInt8) (r : VR) : Option R :=
  PS.cnd r.off
    (K (.exit 0) ⟨slots 103 [(0, .d (.str s)), (2, .ptr 0 0), (3, .d (.int .i64 e3)), (4, .d (.int .i64 e4))], [.cells [.d (.int .i64 k0), .d (.int .i64 n0), .d (.str t0)]]⟩)
    (K .ret ⟨slots 103 [(0, .d (.str s)), (2, .ptr 0 0), (3, .d (.int .i64 r.pos)), (4, .d (.int .i64 r.err))], [.cells [.d (.int .i64 r.kind), .d (.int .i64 r.n), .d (.str r.txt)]]⟩)

theorem bytes_one (z : DV) (v : Int) : bytesOf (fillS (rep 1 z) [(0, DV.int .u8 v)]) = [UInt8.ofNat v.toNat] := rfl

set_option maxHeartbeats 2000000 in
theorem loop46 (F : Nat) {R : Type} (s : List UInt8) (e3 e4 k0 n0 : Int) (t0 : List UInt8) (K : Ex → St → Option R) (hs : s.length ≤ 1000000) :
    ∀ (m : Nat) (a : Int) (out : List UInt8), 0 ≤ a → a ≤ s.length → out.length ≤ a → (s.length - a).toNat < m →
      loopK (pcodeK (ctx F [(61, .pure S61), (79, .pure S79), (80, .pure S80)]) L46 (lp Tryd.f46 0)) 1 (allBut 103 [0, 2, 3, 4, 5, 6] ++ temps (lp Tryd.f46 0)) (allBut 103 [0, 2, 3, 4]) m
        ⟨slots 103 [(0, .d (.str s)), (2, .ptr 0 0), (3, .d (.int .i64 e3)), (4, .d (.int .i64 e4)), (5, .d (.str out)), (6, .d (.int .i64 a))], [.cells [.d (.int .i64 k0), .d (.int .i64 n0), .d (.str t0)]]⟩ K =
      ext46 K s e3 e4 k0 n0 t0 (textGo s m a out) := by
  intro m
  induction m with
  | zero => intro a out _ _ _ hm; omega
  | succ m ih =>
    intro a out h0 h1 hl hm
    rw [loopK_succ, round46_0]
    obtain ⟨k, rfl⟩ := Int.eq_ofNat_of_zero_le h0
    have w1 : IntKind.i64.wrap ((k : Int) + 1) = (k : Int) + 1 := wrap64 (by omega) (by omega)
    have w3 : IntKind.i64.wrap ((s.length : Int) - 1) = (s.length : Int) - 1 := wrap64 (by omega) (by omega)
    have hcb : chr s (k : Int) = (byt s k : Int) := chr_byt s k
    have hb := byt_lt s k
    simp only [Tr.run, rnd, w1, w3, chr_def, hcb, cnd_dec, chk_dec]
    by_cases hk : k < s.length
    · have hki : (k : Int) < s.length := by omega
      have hkn : (k : Int).toNat < s.length := by omega
      have p0 : (0 : Int) ≤ k := by omega
      rw [if_pos hki, chk_t (lim_ok (n := (k : Int)) (m := (k : Int) + 4) (by omega) (by omega))]
      simp only [if_pos p0, if_pos hkn]
      by_cases q : (byt s k : Int) = 34
      · simp only [if_pos q]
        by_cases e : (k : Int) + 1 < s.length
        · have hT : textGo s (m + 1) k out = ⟨0, 0, [], k + 1, 4, k + 1, false⟩ := by simp only [textGo, if_pos hki, hcb, if_pos q, if_pos e]
          rw [if_neg (show ¬ (k : Int) = (s.length : Int) - 1 by omega), hT]
          rfl
        · rw [if_pos (show (k : Int) = (s.length : Int) - 1 by omega)]
          by_cases g : 40 < out.length
          · have hT : textGo s (m + 1) k out = ⟨0, 0, [], 0, 5, k + 1, false⟩ := by simp only [textGo, if_pos hki, hcb, if_pos q, if_neg e, if_pos g]
            rw [if_pos (show (out.length : Int) > 40 by omega), hT]
            rfl
          · have hT : textGo s (m + 1) k out = ⟨2, 0, out, k + 1, 0, k + 1, false⟩ := by simp only [textGo, if_pos hki, hcb, if_pos q, if_neg e, if_neg g]
            have hlen : (s.length : Int) = (k : Int) + 1 := by omega
            rw [if_neg (show ¬ (out.length : Int) > 40 by omega), hT, hlen]
            rfl
      · simp only [if_neg q]
        by_cases q2 : (byt s k : Int) = 92
        · rw [if_pos q2, chk_t (lim_ok (n := (k : Int) + 1) (m := (k : Int) + 1 + 3) (by omega) (by omega))]
          obtain ⟨r1, r2, r3, r4⟩ := escTo_range s ((k : Int) + 1) (by omega)
          by_cases g : escV s ((k : Int) + 1) < 0
          · have hT : textGo s (m + 1) k out = ⟨0, 0, [], failN s (escTo s (k + 1)), failE s (escTo s (k + 1)), escTo s (k + 1), false⟩ := by simp only [textGo, if_pos hki, hcb, if_neg q, if_pos q2, if_pos g]
            rw [if_pos g, hT]
            rfl
          · have hT : textGo s (m + 1) k out = textGo s m (escTo s (k + 1)) (out ++ [UInt8.ofNat (escV s (k + 1)).toNat]) := by simp only [textGo, if_pos hki, hcb, if_neg q, if_pos q2, if_neg g]
            have w8 : IntKind.u8.wrap (escV s ((k : Int) + 1)) = escV s ((k : Int) + 1) := wrap8 (by omega) (by omega)
            rw [if_neg g, hT, bytes_one, w8, if_pos (by rw [List.length_singleton]; omega), ih _ _ (by omega) r2 (by simp; omega) (by omega)]
        · rw [if_neg q2]
          by_cases q3 : width s k = 0
          · have hT : textGo s (m + 1) k out = ⟨0, 0, [], k, 4, k, false⟩ := by simp only [textGo, if_pos hki, hcb, if_neg q, if_neg q2, if_pos (Or.inl q3 : width s (k : Int) = 0 ∨ (byt s k : Int) < 32 ∨ (byt s k : Int) = 127)]
            rw [if_pos q3, hT]
            rfl
          · rw [if_neg q3]
            by_cases q4 : (byt s k : Int) < 32
            · have hT : textGo s (m + 1) k out = ⟨0, 0, [], k, 4, k, false⟩ := by simp only [textGo, if_pos hki, hcb, if_neg q, if_neg q2, if_pos (Or.inr (Or.inl q4) : width s (k : Int) = 0 ∨ (byt s k : Int) < 32 ∨ (byt s k : Int) = 127)]
              rw [if_pos q4, hT]
              rfl
            · rw [if_neg q4]
              by_cases q5 : (byt s k : Int) = 127
              · have hT : textGo s (m + 1) k out = ⟨0, 0, [], k, 4, k, false⟩ := by simp only [textGo, if_pos hki, hcb, if_neg q, if_neg q2, if_pos (Or.inr (Or.inr q5) : width s (k : Int) = 0 ∨ (byt s k : Int) < 32 ∨ (byt s k : Int) = 127)]
                rw [if_pos q5, hT]
                rfl
              · have hT : textGo s (m + 1) k out = textGo s m (k + width s k) (out ++ (s.drop k).take (width s k).toNat) := by
                  simp only [textGo, if_pos hki, hcb, if_neg q, if_neg q2, if_neg (show ¬ (width s (k : Int) = 0 ∨ (byt s k : Int) < 32 ∨ (byt s k : Int) = 127) by omega), Int.toNat_natCast]
                rw [if_neg q5, hT]
                have hw : 1 ≤ width s k ∧ (k : Int) + width s k ≤ s.length := by
                  rcases dec_cases s k hk with ⟨c, hd, hw⟩ | ⟨c, hd, hw⟩ | ⟨c, hd1, hd2, hd3, hw⟩
                  · omega
                  · omega
                  · omega
                have w5 : IntKind.i64.wrap ((k : Int) + width s k) = (k : Int) + width s k := wrap64 (by omega) (by omega)
                rw [w5]
                have e : List.drop (k : Int).toNat (List.take ((k : Int) + width s k).toNat s) = (s.drop k).take (width s k).toNat := by
                  rw [List.drop_take]; simp only [Int.toNat_natCast]; congr 1; omega
                have hlen : ((s.drop k).take (width s k).toNat).length = (width s k).toNat := by simp; omega
                rw [e, if_pos (show (k : Int) ≤ (k : Int) + width s k by omega), if_pos (show (k : Int) + width s k ≤ (s.length : Int) by omega), if_pos (by rw [hlen]; omega), ih _ _ (by omega) (by omega) (by rw [List.length_append, hlen]; omega) (by omega)]
    · have hki : ¬ (k : Int) < s.length := by omega
      have hT : textGo s (m + 1) k out = ⟨0, 0, [], s.length, 3, k, true⟩ := by simp only [textGo, if_neg hki]
      rw [if_neg hki, hT]
      rfl

theorem lps46 (F : Nat) (hF : F = FU) : LpsOk (ctx F [(61, .pure S61), (79, .pure S79), (80, .pure S80)]) L46 (loopsOf (body Tryd.f46)) := by
  refine lps_one (c := lp Tryd.f46 0) rfl (by kernel_rfl) fun R st K r h => ?_
  unfold T46 at h
  cases hs : shape 103 [0, 2, 3, 4, 5, 6] st.slots with
  | false => rw [hs] at h; simp [Tr.run] at h
  | true =>
  rw [hs] at h
  simp only [cond_true] at h
  have he := shape_eq hs
  obtain ⟨sl0, H⟩ := st
  dsimp only at h he ⊢
  split at h
  · rename_i s e3 e4 out a k0 n0 t0 g0 g2 g3 g4 g5 g6
    simp only [List.map_cons, List.map_nil, g0, g2, g3, g4, g5, g6] at he
    subst he
    simp only [Tr.run] at h
    cases hc : (decide (0 ≤ a) && decide (a ≤ s.length) && decide (s.length ≤ big) && decide (out.length ≤ a)) with
    | false => rw [hc] at h; simp at h
    | true =>
    rw [hc] at h
    simp only [Bool.and_eq_true, decide_eq_true_eq] at hc
    obtain ⟨⟨⟨h0, h1⟩, h2⟩, h4⟩ := hc
    unfold big at h2
    refine (loop46 F s e3 e4 k0 n0 t0 K h2 F a out h0 h1 h4 (by rw [hF]; unfold FU; omega)).trans ?_
    rw [← h, hF]
    rfl
  · simp [Tr.run] at h

def S46 : List PV → Tr PV
  | [.d (.str s)] => .chk (decide (1 ≤ s.length) && decide (s.length ≤ big)) (.ok (textR s).pv)
  | _ => .no

theorem ok46 (W0 : World) : EKOk Tryd.prog W0 46 (.pure S46) := by
  refine pure_of (tyOk FU [(61, .pure S61), (79, .pure S79), (80, .pure S80)]) (look_ok (all_cons (ok61 W0) (all_cons (ok79 W0) (all_cons (ok80 W0) all_nil)))) mixed fn46 (lps46 FU rfl) fun args r h => ?_
  unfold S46 at h
  split at h
  · rename_i s
    refine (run46 FU s).trans ?_
    rw [← h]
    simp only [Tr.val_chk, chk_some, Bool.and_eq_true, decide_eq_true_eq] at h
    obtain ⟨⟨h0, h1⟩, _⟩ := h
    simp only [Tr.val_ok, Tr.val_cnd, Tr.val_chk]
    rw [chk_t (b := decide (1 ≤ s.length) && decide (s.length ≤ big)) (by simp [h0, h1])]
    rw [chk_t (by simp only [Bool.and_eq_true, decide_eq_true_eq]; exact ⟨⟨⟨by omega, by omega⟩, h1⟩, by simp⟩)]
    have ho := textGo_off s FU 1 [] (by omega) (by omega) (by unfold big at h1; unfold FU; omega)
    unfold textR
    cases hof : (textGo s FU 1 []).off with
    | false => rfl
    | true =>
      obtain ⟨o1, o2, o3, o4, o5, o6⟩ := ho hof
      simp only [cnd_tt, VR.pv, o2, o3, o4, o5, o6]
  · simp [Tr.val_no] at h
end Go.PS
end

section
namespace Go.PS
open Go.Proofs
/-- the place behind the digits from a place on -/
def digTo (s : List UInt8) : Nat → Int → Int
  | 0, a => a
  | m + 1, a => if a < s.length ∧ isDigit (chr s a) = true then digTo s m (a + 1) else a
def numAt (s : List UInt8) : Int := if chr s 0 = 45 then 1 else 0
def numR (s : List UInt8) : VR :=
  if ¬ (numAt s < s.length ∧ isDigit (chr s (numAt s)) = true) ∨ (chr s (numAt s) = 48 ∧ numAt s = 1) then ⟨0, 0, [], failN s (numAt s), failE s (numAt s), numAt s, false⟩
  else if chr s (numAt s) = 48 then (if 1 < s.length then ⟨0, 0, [], 1, 4, 1, false⟩ else ⟨1, 0, [], 1, 0, 1, false⟩)
  else if digTo s FU (numAt s + 1) < s.length then ⟨0, 0, [], digTo s FU (numAt s + 1), 4, digTo s FU (numAt s + 1), false⟩
  else if atoiOk s = true then ⟨1, atoiV s, [], s.length, 0, s.length, false⟩ else ⟨0, 0, [], 0, 5, s.length, false⟩

def T44 (st : St) : Tr (Ex × St) :=
  bif shape 105 [0, 2, 3, 4] st.slots then
    match gt .undef st.slots 0, gt .undef st.slots 2, gt .undef st.slots 3, gt .undef st.slots 4, st.heap with
    | .ptr 0 0, .ptr 1 0, .d (.int .i64 e3), .d (.int .i64 e4), [.cells [.d (.str s), .d (.int .i64 a)], .cells [.d (.int .i64 k0), .d (.int .i64 n0), .d (.str t0)]] =>
      .chk (decide (0 ≤ a) && decide (a ≤ s.length) && decide (s.length ≤ big)) (.cnd (decide (digTo s FU a < s.length))
        (.ok (.ret, ⟨slots 105 [(0, .ptr 0 0), (2, .ptr 1 0), (3, .d (.int .i64 (digTo s FU a))), (4, .d (.int .i64 4))], [.cells [.d (.str s), .d (.int .i64 (digTo s FU a))], .cells [.d (.int .i64 0), .d (.int .i64 0), .d (.str [])]]⟩))
        (.ok (.exit 0, ⟨slots 105 [(0, .ptr 0 0), (2, .ptr 1 0), (3, .d (.int .i64 e3)), (4, .d (.int .i64 e4))], [.cells [.d (.str s), .d (.int .i64 s.length)], .cells [.d (.int .i64 k0), .d (.int .i64 n0), .d (.str t0)]]⟩)))
    | _, _, _, _, _ => .no
  else .no
def L44 : Lps := fun i => bif Nat.beq i 12 then some (allBut 105 [0, 2, 3, 4], allBut 105 [0, 2, 3, 4], T44) else none
end Go.PS
end

section
namespace Go.PS
open Go.Proofs
set_option maxRecDepth 100000
theorem round44_0 (F : Nat) {R : Type} (s : List UInt8) (n e3 e4 k0 n0 : Int) (t0 : List UInt8) (K : Ex → St → Option R) (G : St → Option R) : roundK (pcodeK (ctx F [(45, .eff (frameT S45)), (77, .eff (frameT S77)), (78, .pure S78)]) L44 (lp Tryd.f44 0)) 2 (allBut 105 [0, 2, 3, 4] ++ temps (lp Tryd.f44 0)) (allBut 105 [0, 2, 3, 4]) ⟨slots 105 [(0, .ptr 0 0), (2, .ptr 1 0), (3, .d (.int .i64 e3)), (4, .d (.int .i64 e4))], [.cells [.d (.str s), .d (.int .i64 n)], .cells [.d (.int .i64 k0), .d (.int .i64 n0), .d (.str t0)]]⟩ K G =
    Tr.run
      (.cnd (decide (n < (↑s.length : Int)))
        (.chk (decide (0 ≤ n) && decide (n < lim))
        (.cnd (hasB ([48, 49, 50, 51, 52, 53, 54, 55, 56, 57] : List UInt8) s n)
          (.ok (.inr ⟨slots 105 [(0, PV.ptr 0 0), (2, PV.ptr 1 0), (3, PV.d (DV.int IntKind.i64 e3)), (4, PV.d (DV.int IntKind.i64 e4))], [PObj.cells [PV.d (DV.str s), PV.d (DV.int IntKind.i64 (n + 1))],
        PObj.cells [PV.d (DV.int IntKind.i64 k0), PV.d (DV.int IntKind.i64 n0), PV.d (DV.str t0)]]⟩))
          (.ok (.inl (Ex.ret, ⟨slots 105 [(0, PV.ptr 0 0), (2, PV.ptr 1 0), (3, PV.d (DV.int IntKind.i64 (failN s n))), (4, PV.d (DV.int IntKind.i64 (failE s n)))], [PObj.cells [PV.d (DV.str s), PV.d (DV.int IntKind.i64 n)],
        PObj.cells [PV.d (DV.int IntKind.i64 (0)), PV.d (DV.int IntKind.i64 (0)), PV.d (DV.str [])]]⟩)))))
        (.ok (.inl (Ex.exit 0, ⟨slots 105 [(0, PV.ptr 0 0), (2, PV.ptr 1 0), (3, PV.d (DV.int IntKind.i64 e3)), (4, PV.d (DV.int IntKind.i64 e4))], [PObj.cells [PV.d (DV.str s), PV.d (DV.int IntKind.i64 n)],
        PObj.cells [PV.d (DV.int IntKind.i64 k0), PV.d (DV.int IntKind.i64 n0), PV.d (DV.str t0)]]⟩)))) (rnd K G) := by kernel_rfl
/-! (*fasti value.reader).number -/
theorem fn44 : FnOk Tryd.prog 44 105 [.cell 2 33, .tmp 3, .tmp 4] (body Tryd.f44) := ⟨Tryd.f44, Tryd.func44, bodySome _ (by kernel_rfl), by kernel_rfl, by kernel_rfl, by kernel_rfl, by kernel_rfl⟩
theorem run44 (F : Nat) (s : List UInt8) (n : Int) : runE (ctx F [(45, .eff (frameT S45)), (77, .eff (frameT S77)), (78, .pure S78)]) L44 105 [.cell 2 33, .tmp 3, .tmp 4] (body Tryd.f44) [.ptr 0 0] [.cells [.d (.str s), .d (.int .i64 n)]] =
    Tr.val
      (.chk (decide (0 ≤ n) && decide (n < lim))
      (.cnd (hasB ([45] : List UInt8) s n)
        (.chk (decide (0 ≤ n + 1) && decide (n + 1 < lim))
        (.cnd (hasB ([48, 49, 50, 51, 52, 53, 54, 55, 56, 57] : List UInt8) s (n + 1))
          (.cnd (decide (chr s (n + 1) = 48))
            (.ok ((Out.ret
          (PV.tup
            [PV.d (DV.agg [DV.int IntKind.i64 (0), DV.int IntKind.i64 (0), DV.str []]),
              PV.d (DV.int IntKind.i64 (failN s (IntKind.i64.wrap (n + 1 + 1 - 1)))),
              PV.d (DV.int IntKind.i64 (failE s (IntKind.i64.wrap (n + 1 + 1 - 1))))]),
        [PObj.cells [PV.d (DV.str s), PV.d (DV.int IntKind.i64 (IntKind.i64.wrap (n + 1 + 1 - 1)))]])))
            (.chk (decide (0 ≤ n + 1 + 1) && decide (n + 1 + 1 ≤ (↑s.length : Int)) && decide (s.length ≤ big))
            (.cnd (decide (digTo s FU (n + 1 + 1) < (↑s.length : Int)))
              (.ok ((Out.ret
          (PV.tup
            [PV.d (DV.agg [DV.int IntKind.i64 (0), DV.int IntKind.i64 (0), DV.str []]),
              PV.d (DV.int IntKind.i64 (digTo s FU (n + 1 + 1))), PV.d (DV.int IntKind.i64 (4))]),
        [PObj.cells [PV.d (DV.str s), PV.d (DV.int IntKind.i64 (digTo s FU (n + 1 + 1)))]])))
              (.chk (decide (s.length ≤ 281474976710656))
              (.cnd (atoiOk s)
                (.ok ((Out.ret
          (PV.tup
            [PV.d (DV.agg [DV.int IntKind.i64 (1), DV.int IntKind.i64 (atoiV s), DV.str []]),
              PV.d (DV.int IntKind.i64 (↑s.length : Int)), PV.d (DV.int IntKind.i64 (0))]),
        [PObj.cells [PV.d (DV.str s), PV.d (DV.int IntKind.i64 (↑s.length : Int))]])))
                (.ok ((Out.ret
          (PV.tup
            [PV.d (DV.agg [DV.int IntKind.i64 (0), DV.int IntKind.i64 (0), DV.str []]),
              PV.d (DV.int IntKind.i64 (0)), PV.d (DV.int IntKind.i64 (5))]),
        [PObj.cells [PV.d (DV.str s), PV.d (DV.int IntKind.i64 (↑s.length : Int))]]))))))))
          (.ok ((Out.ret
          (PV.tup
            [PV.d (DV.agg [DV.int IntKind.i64 (0), DV.int IntKind.i64 (0), DV.str []]),
              PV.d (DV.int IntKind.i64 (failN s (n + 1))), PV.d (DV.int IntKind.i64 (failE s (n + 1)))]),
        [PObj.cells [PV.d (DV.str s), PV.d (DV.int IntKind.i64 (n + 1))]])))))
        (.chk (decide (0 ≤ n) && decide (n < lim))
        (.cnd (hasB ([48, 49, 50, 51, 52, 53, 54, 55, 56, 57] : List UInt8) s n)
          (.cnd (decide (chr s n = 48))
            (.cnd (decide (n + 1 < (↑s.length : Int)))
              (.ok ((Out.ret
          (PV.tup
            [PV.d (DV.agg [DV.int IntKind.i64 (0), DV.int IntKind.i64 (0), DV.str []]),
              PV.d (DV.int IntKind.i64 (failN s (n + 1))), PV.d (DV.int IntKind.i64 (failE s (n + 1)))]),
        [PObj.cells [PV.d (DV.str s), PV.d (DV.int IntKind.i64 (n + 1))]])))
              (.ok ((Out.ret
          (PV.tup
            [PV.d (DV.agg [DV.int IntKind.i64 (1), DV.int IntKind.i64 (0), DV.str []]),
              PV.d (DV.int IntKind.i64 (n + 1)), PV.d (DV.int IntKind.i64 (0))]),
        [PObj.cells [PV.d (DV.str s), PV.d (DV.int IntKind.i64 (n + 1))]]))))
            (.chk (decide (0 ≤ n + 1) && decide (n + 1 ≤ (↑s.length : Int)) && decide (s.length ≤ big))
            (.cnd (decide (digTo s FU (n + 1) < (↑s.length : Int)))
              (.ok ((Out.ret
          (PV.tup
            [PV.d (DV.agg [DV.int IntKind.i64 (0), DV.int IntKind.i64 (0), DV.str []]),
              PV.d (DV.int IntKind.i64 (digTo s FU (n + 1))), PV.d (DV.int IntKind.i64 (4))]),
        [PObj.cells [PV.d (DV.str s), PV.d (DV.int IntKind.i64 (digTo s FU (n + 1)))]])))
              (.chk (decide (s.length ≤ 281474976710656))
              (.cnd (atoiOk s)
                (.ok ((Out.ret
          (PV.tup
            [PV.d (DV.agg [DV.int IntKind.i64 (1), DV.int IntKind.i64 (atoiV s), DV.str []]),
              PV.d (DV.int IntKind.i64 (↑s.length : Int)), PV.d (DV.int IntKind.i64 (0))]),
        [PObj.cells [PV.d (DV.str s), PV.d (DV.int IntKind.i64 (↑s.length : Int))]])))
                (.ok ((Out.ret
          (PV.tup
            [PV.d (DV.agg [DV.int IntKind.i64 (0), DV.int IntKind.i64 (0), DV.str []]),
              PV.d (DV.int IntKind.i64 (0)), PV.d (DV.int IntKind.i64 (5))]),
        [PObj.cells [PV.d (DV.str s), PV.d (DV.int IntKind.i64 (↑s.length : Int))]]))))))))
          (.ok ((Out.ret
          (PV.tup
            [PV.d (DV.agg [DV.int IntKind.i64 (0), DV.int IntKind.i64 (0), DV.str []]),
              PV.d (DV.int IntKind.i64 (failN s n)), PV.d (DV.int IntKind.i64 (failE s n))]),
        [PObj.cells [PV.d (DV.str s), PV.d (DV.int IntKind.i64 n)]]))))))) := by kernel_rfl
end Go.PS
end

section
namespace Go.PS
open Go.Proofs
def dig10 : List UInt8 := [48, 49, 50, 51, 52, 53, 54, 55, 56, 57]
set_option maxRecDepth 100000 in
theorem idx_dig (b : UInt8) : Lib.indexByte dig10 b = if 48 ≤ b.toNat ∧ b.toNat ≤ 57 then (b.toNat : Int) - 48 else -1 :=
  byte_all (p := fun b => Lib.indexByte dig10 b = if 48 ≤ b.toNat ∧ b.toNat ≤ 57 then (b.toNat : Int) - 48 else -1) (by decide) b
set_option maxRecDepth 100000 in
theorem idx_minus (b : UInt8) : Lib.indexByte [45] b = if b.toNat = 45 then 0 else -1 :=
  byte_all (p := fun b => Lib.indexByte [45] b = if b.toNat = 45 then 0 else -1) (by decide) b
theorem isDigit_iff (b : Int) : isDigit b = true ↔ 48 ≤ b ∧ b ≤ 57 := by unfold isDigit; simp
theorem digit_iff (s : List UInt8) (n : Int) (h0 : 0 ≤ n) : hasB [48, 49, 50, 51, 52, 53, 54, 55, 56, 57] s n = decide (n < s.length ∧ isDigit (chr s n) = true) := by
  rw [Bool.eq_iff_iff, hasB_iff, idx_chr, show ([48, 49, 50, 51, 52, 53, 54, 55, 56, 57] : List UInt8) = dig10 from rfl, idx_dig, decide_eq_true_eq, isDigit_iff]
  have hc : chr s n = ((s.getD n.toNat 0).toNat : Int) := rfl
  rw [hc]
  generalize (s.getD n.toNat 0).toNat = b
  split <;> omega
theorem minus_iff (s : List UInt8) (n : Int) (h0 : 0 ≤ n) : hasB [45] s n = decide (n < s.length ∧ chr s n = 45) := by
  rw [Bool.eq_iff_iff, hasB_iff, idx_chr, idx_minus, decide_eq_true_eq]
  have hc : chr s n = ((s.getD n.toNat 0).toNat : Int) := rfl
  rw [hc]
  generalize (s.getD n.toNat 0).toNat = b
  split <;> omega

theorem loop44 (F : Nat) {R : Type} (s : List UInt8) (e3 e4 k0 n0 : Int) (t0 : List UInt8) (K : Ex → St → Option R) (hs : s.length ≤ 1000000) :
    ∀ (m : Nat) (a : Int), 0 ≤ a → a ≤ s.length → (s.length - a).toNat < m →
      loopK (pcodeK (ctx F [(45, .eff (frameT S45)), (77, .eff (frameT S77)), (78, .pure S78)]) L44 (lp Tryd.f44 0)) 2 (allBut 105 [0, 2, 3, 4] ++ temps (lp Tryd.f44 0)) (allBut 105 [0, 2, 3, 4]) m
        ⟨slots 105 [(0, .ptr 0 0), (2, .ptr 1 0), (3, .d (.int .i64 e3)), (4, .d (.int .i64 e4))], [.cells [.d (.str s), .d (.int .i64 a)], .cells [.d (.int .i64 k0), .d (.int .i64 n0), .d (.str t0)]]⟩ K =
      PS.cnd (decide (digTo s m a < s.length))
        (K .ret ⟨slots 105 [(0, .ptr 0 0), (2, .ptr 1 0), (3, .d (.int .i64 (digTo s m a))), (4, .d (.int .i64 4))], [.cells [.d (.str s), .d (.int .i64 (digTo s m a))], .cells [.d (.int .i64 0), .d (.int .i64 0), .d (.str [])]]⟩)
        (K (.exit 0) ⟨slots 105 [(0, .ptr 0 0), (2, .ptr 1 0), (3, .d (.int .i64 e3)), (4, .d (.int .i64 e4))], [.cells [.d (.str s), .d (.int .i64 s.length)], .cells [.d (.int .i64 k0), .d (.int .i64 n0), .d (.str t0)]]⟩) := by
  intro m
  induction m with
  | zero => intro a _ _ hm; omega
  | succ m ih =>
    intro a h0 h1 hm
    rw [loopK_succ, round44_0]
    simp only [Tr.run, rnd, digit_iff s a h0]
    by_cases hk : a < s.length
    · rw [cnd_t (b := decide (a < (s.length : Int))) (by simpa using hk), chk_t (lim_ok (n := a) (m := a) (by omega) (by omega))]
      by_cases d : isDigit (chr s a) = true
      · rw [cnd_t (b := decide (a < (s.length : Int) ∧ isDigit (chr s a) = true)) (decide_eq_true ⟨hk, d⟩), ih _ (by omega) (by omega) (by omega)]
        simp only [digTo, if_pos (show a < (s.length : Int) ∧ isDigit (chr s a) = true from ⟨hk, d⟩)]
      · rw [cnd_f (b := decide (a < (s.length : Int) ∧ isDigit (chr s a) = true)) (decide_eq_false fun h => d h.2)]
        simp only [digTo, if_neg (show ¬ (a < (s.length : Int) ∧ isDigit (chr s a) = true) from fun h => d h.2)]
        rw [cnd_t (b := decide (a < (s.length : Int))) (by simpa using hk)]
        simp only [failN, failE, if_pos hk]
    · have e : a = s.length := by omega
      rw [cnd_f (b := decide (a < (s.length : Int))) (by simpa using hk)]
      simp only [digTo, if_neg (show ¬ (a < (s.length : Int) ∧ isDigit (chr s a) = true) from fun h => hk h.1)]
      rw [cnd_f (b := decide (a < (s.length : Int))) (by simpa using hk), e]

theorem lps44 (F : Nat) (hF : F = FU) : LpsOk (ctx F [(45, .eff (frameT S45)), (77, .eff (frameT S77)), (78, .pure S78)]) L44 (loopsOf (body Tryd.f44)) := by
  refine lps_one (c := lp Tryd.f44 0) rfl (by kernel_rfl) fun R st K r h => ?_
  unfold T44 at h
  cases hs : shape 105 [0, 2, 3, 4] st.slots with
  | false => rw [hs] at h; simp [Tr.run] at h
  | true =>
  rw [hs] at h
  simp only [cond_true] at h
  have he := shape_eq hs
  obtain ⟨sl0, H⟩ := st
  dsimp only at h he ⊢
  split at h
  · rename_i e3 e4 s a k0 n0 t0 g0 g2 g3 g4
    simp only [List.map_cons, List.map_nil, g0, g2, g3, g4] at he
    subst he
    simp only [Tr.run] at h
    cases hc : (decide (0 ≤ a) && decide (a ≤ s.length) && decide (s.length ≤ big)) with
    | false => rw [hc] at h; simp at h
    | true =>
    rw [hc] at h
    simp only [Bool.and_eq_true, decide_eq_true_eq] at hc
    obtain ⟨⟨h0, h1⟩, h2⟩ := hc
    unfold big at h2
    refine (loop44 F s e3 e4 k0 n0 t0 K h2 F a h0 h1 (by rw [hF]; unfold FU; omega)).trans ?_
    rw [← h, hF]
    rfl
  · simp [Tr.run] at h

def S44 : List PV → List PObj → Tr (Out × List PObj)
  | [.ptr 0 0], [.cells [.d (.str s), .d (.int .i64 a)]] =>
    .chk (decide (a = 0) && decide (1 ≤ s.length) && decide (s.length ≤ big)) (.ok (.ret (numR s).pv, [.cells [.d (.str s), .d (.int .i64 (numR s).fin)]]))
  | _, _ => .no

theorem big_ok {a : Int} {s : List UInt8} (h0 : 0 ≤ a) (h1 : a ≤ s.length) (h2 : s.length ≤ big) : (decide (0 ≤ a) && decide (a ≤ (s.length : Int)) && decide (s.length ≤ big)) = true := by
  simp only [Bool.and_eq_true, decide_eq_true_eq]
  exact ⟨⟨h0, h1⟩, h2⟩

theorem ok44 (W0 : World) (hW : Laid W0) : EKOk Tryd.prog W0 44 (.eff (frameT S44)) := by
  refine eff_of (tyOk FU [(45, .eff (frameT S45)), (77, .eff (frameT S77)), (78, .pure S78)]) (look_ok (all_cons (ok45 W0) (all_cons (ok77 W0) (all_cons (ok78 hW) all_nil)))) mixed fn44 (lps44 FU rfl) fun args H r h => ?_
  unfold S44 at h
  split at h
  · rename_i s n
    refine (run44 FU s n).trans ?_
    rw [← h]
    simp only [Tr.val_chk, chk_some, Bool.and_eq_true, decide_eq_true_eq] at h
    obtain ⟨⟨⟨hn, h0⟩, h1⟩, _⟩ := h
    have hbig : s.length ≤ 1000000 := h1
    simp only [Tr.val_ok, Tr.val_cnd, Tr.val_chk]
    rw [chk_t (b := decide (n = 0) && decide (1 ≤ s.length) && decide (s.length ≤ big)) (by simp [hn, h0, h1])]
    subst hn
    have e1 : (0 : Int) + 1 = 1 := rfl
    have e2 : (0 : Int) + 1 + 1 = 2 := rfl
    have w1 : IntKind.i64.wrap (2 - 1) = 1 := rfl
    rw [e2, e1, w1, minus_iff s 0 (by omega), digit_iff s 1 (by omega), digit_iff s 0 (by omega)]
    rw [chk_t (lim_ok (n := (0 : Int)) (m := 0) (by omega) (by omega)), chk_t (lim_ok (n := (1 : Int)) (m := 1) (by omega) (by omega))]
    have hl : (0 : Int) < s.length := by omega
    have hat : (decide (s.length ≤ 281474976710656)) = true := by simp only [decide_eq_true_eq]; omega
    by_cases m : chr s 0 = 45
    · have hA : numAt s = 1 := by simp only [numAt, if_pos m]
      rw [cnd_t (b := decide ((0 : Int) < s.length ∧ chr s 0 = 45)) (decide_eq_true ⟨hl, m⟩)]
      by_cases d : (1 : Int) < s.length ∧ isDigit (chr s 1) = true
      · rw [cnd_t (b := decide ((1 : Int) < s.length ∧ isDigit (chr s 1) = true)) (decide_eq_true d)]
        by_cases z : chr s 1 = 48
        · have hR : numR s = ⟨0, 0, [], failN s 1, failE s 1, 1, false⟩ := by unfold numR; rw [hA, if_pos (Or.inr ⟨z, rfl⟩)]
          rw [cnd_t (b := decide (chr s 1 = 48)) (decide_eq_true z), hR]
          rfl
        · rw [cnd_f (b := decide (chr s 1 = 48)) (decide_eq_false z), chk_t (big_ok (a := (2 : Int)) (by omega) (by omega) h1)]
          have hN : ¬ (¬ ((1 : Int) < s.length ∧ isDigit (chr s 1) = true) ∨ (chr s 1 = 48 ∧ (1 : Int) = 1)) := by
            rintro (h | h)
            · exact h d
            · exact z h.1
          by_cases j : digTo s FU 2 < s.length
          · have hR : numR s = ⟨0, 0, [], digTo s FU 2, 4, digTo s FU 2, false⟩ := by unfold numR; rw [hA, if_neg hN, if_neg z, show (1 : Int) + 1 = 2 from rfl, if_pos j]
            rw [cnd_t (b := decide (digTo s FU 2 < (s.length : Int))) (decide_eq_true j), hR]
            rfl
          · rw [cnd_f (b := decide (digTo s FU 2 < (s.length : Int))) (decide_eq_false j), chk_t hat]
            by_cases o : atoiOk s = true
            · have hR : numR s = ⟨1, atoiV s, [], s.length, 0, s.length, false⟩ := by unfold numR; rw [hA, if_neg hN, if_neg z, show (1 : Int) + 1 = 2 from rfl, if_neg j, if_pos o]
              rw [cnd_t o, hR]
              rfl
            · have hR : numR s = ⟨0, 0, [], 0, 5, s.length, false⟩ := by unfold numR; rw [hA, if_neg hN, if_neg z, show (1 : Int) + 1 = 2 from rfl, if_neg j, if_neg o]
              rw [cnd_f (by simpa using o), hR]
              rfl
      · have hR : numR s = ⟨0, 0, [], failN s 1, failE s 1, 1, false⟩ := by unfold numR; rw [hA, if_pos (Or.inl d)]
        rw [cnd_f (b := decide ((1 : Int) < s.length ∧ isDigit (chr s 1) = true)) (decide_eq_false d), hR]
        rfl
    · have hA : numAt s = 0 := by simp only [numAt, if_neg m]
      rw [cnd_f (b := decide ((0 : Int) < s.length ∧ chr s 0 = 45)) (decide_eq_false fun h => m h.2)]
      by_cases d : (0 : Int) < s.length ∧ isDigit (chr s 0) = true
      · have hN : ¬ (¬ ((0 : Int) < s.length ∧ isDigit (chr s 0) = true) ∨ (chr s 0 = 48 ∧ (0 : Int) = 1)) := by
          rintro (h | h)
          · exact h d
          · exact absurd h.2 (by omega)
        rw [cnd_t (b := decide ((0 : Int) < s.length ∧ isDigit (chr s 0) = true)) (decide_eq_true d)]
        by_cases z : chr s 0 = 48
        · rw [cnd_t (b := decide (chr s 0 = 48)) (decide_eq_true z)]
          by_cases q : 1 < s.length
          · have hR : numR s = ⟨0, 0, [], 1, 4, 1, false⟩ := by unfold numR; rw [hA, if_neg hN, if_pos z, if_pos q]
            have q' : (1 : Int) < s.length := by omega
            rw [cnd_t (b := decide ((1 : Int) < s.length)) (decide_eq_true q'), hR]
            simp only [failN, failE, if_pos q']
            rfl
          · have hR : numR s = ⟨1, 0, [], 1, 0, 1, false⟩ := by unfold numR; rw [hA, if_neg hN, if_pos z, if_neg q]
            rw [cnd_f (b := decide ((1 : Int) < s.length)) (decide_eq_false (by omega)), hR]
            rfl
        · rw [cnd_f (b := decide (chr s 0 = 48)) (decide_eq_false z), chk_t (big_ok (a := (1 : Int)) (by omega) (by omega) h1)]
          by_cases j : digTo s FU 1 < s.length
          · have hR : numR s = ⟨0, 0, [], digTo s FU 1, 4, digTo s FU 1, false⟩ := by unfold numR; rw [hA, if_neg hN, if_neg z, show (0 : Int) + 1 = 1 from rfl, if_pos j]
            rw [cnd_t (b := decide (digTo s FU 1 < (s.length : Int))) (decide_eq_true j), hR]
            rfl
          · rw [cnd_f (b := decide (digTo s FU 1 < (s.length : Int))) (decide_eq_false j), chk_t hat]
            by_cases o : atoiOk s = true
            · have hR : numR s = ⟨1, atoiV s, [], s.length, 0, s.length, false⟩ := by unfold numR; rw [hA, if_neg hN, if_neg z, show (0 : Int) + 1 = 1 from rfl, if_neg j, if_pos o]
              rw [cnd_t o, hR]
              rfl
            · have hR : numR s = ⟨0, 0, [], 0, 5, s.length, false⟩ := by unfold numR; rw [hA, if_neg hN, if_neg z, show (0 : Int) + 1 = 1 from rfl, if_neg j, if_neg o]
              rw [cnd_f (by simpa using o), hR]
              rfl
      · have hR : numR s = ⟨0, 0, [], failN s 0, failE s 0, 0, false⟩ := by unfold numR; rw [hA, if_pos (Or.inl d)]
        rw [cnd_f (b := decide ((0 : Int) < s.length ∧ isDigit (chr s 0) = true)) (decide_eq_false d), hR]
        rfl
  · simp [Tr.val_no] at h
end Go.PS
end

section
namespace Go.PS
open Go.Proofs
/-- the reference's number, digit by digit; is it too great -/
def accGo (s : List UInt8) (at_ : Int) : Nat → Int → Int → Bool → Int × Bool
  | 0, _, n, b => (n, b)
  | m + 1, i, n, b => if i < s.length ∧ isDigit (chr s i) = true then
      (if at_ = 0 then
        accGo s at_ m (i + 1) (if (b || decide (n > (9223372036854775807 - (chr s i - 48)) / 10)) = true then n else 10 * n + (chr s i - 48)) (b || decide (n > (9223372036854775807 - (chr s i - 48)) / 10))
      else
        accGo s at_ m (i + 1) (if (b || decide (n < (-9223372036854775808 + (chr s i - 48)).tdiv 10)) = true then n else 10 * n - (chr s i - 48)) (b || decide (n < (-9223372036854775808 + (chr s i - 48)).tdiv 10)))
    else (n, b)
def T48 (st : St) : Tr (Ex × St) :=
  bif shape 104 [0, 2, 3, 4, 5, 6, 7, 8] st.slots then
    match gt .undef st.slots 0, gt .undef st.slots 2, gt .undef st.slots 3, gt .undef st.slots 4, gt .undef st.slots 5, gt .undef st.slots 6, gt .undef st.slots 7, gt .undef st.slots 8, st.heap with
    | .d (.str s), .ptr 0 0, .d (.int .i64 e3), .d (.int .i64 e4), .d (.int .i64 a), .d (.int .i64 n), .d (.bool b), .d (.int .i64 i), [.cells [.d (.int .i64 k0), .d (.int .i64 n0), .d (.str t0)]] =>
      .chk (decide (0 ≤ i) && decide (i ≤ s.length) && decide (s.length ≤ big) && decide (a = 0 → 0 ≤ n ∧ n ≤ 9223372036854775807) && decide (a ≠ 0 → -9223372036854775808 ≤ n ∧ n ≤ 0)) (.cnd (decide (digTo s FU i < s.length))
        (.ok (.ret, ⟨slots 104 [(0, .d (.str s)), (2, .ptr 0 0), (3, .d (.int .i64 (digTo s FU i))), (4, .d (.int .i64 4)), (6, .d (.int .i64 (accGo s a FU i n b).1)), (7, .d (.bool (accGo s a FU i n b).2))], [.cells [.d (.int .i64 0), .d (.int .i64 0), .d (.str [])]]⟩))
        (.ok (.exit 0, ⟨slots 104 [(0, .d (.str s)), (2, .ptr 0 0), (3, .d (.int .i64 e3)), (4, .d (.int .i64 e4)), (6, .d (.int .i64 (accGo s a FU i n b).1)), (7, .d (.bool (accGo s a FU i n b).2))], [.cells [.d (.int .i64 k0), .d (.int .i64 n0), .d (.str t0)]]⟩)))
    | _, _, _, _, _, _, _, _, _ => .no
  else .no
def L48 : Lps := fun i => bif Nat.beq i 12 then some (allBut 104 [0, 2, 3, 4, 5, 6, 7, 8], allBut 104 [0, 2, 3, 4, 6, 7], T48) else none
end Go.PS
end

section
namespace Go.PS
open Go.Proofs
set_option maxRecDepth 100000
theorem round48_0 (F : Nat) {R : Type} (s : List UInt8) (a n i e3 e4 k0 n0 : Int) (b : Bool) (t0 : List UInt8) (K : Ex → St → Option R) (G : St → Option R) : roundK (pcodeK (ctx F [(47, .pure S47), (80, .pure S80)]) L48 (lp Tryd.f48 0)) 1 (allBut 104 [0, 2, 3, 4, 5, 6, 7, 8] ++ temps (lp Tryd.f48 0)) (allBut 104 [0, 2, 3, 4, 6, 7]) ⟨slots 104 [(0, .d (.str s)), (2, .ptr 0 0), (3, .d (.int .i64 e3)), (4, .d (.int .i64 e4)), (5, .d (.int .i64 a)), (6, .d (.int .i64 n)), (7, .d (.bool b)), (8, .d (.int .i64 i))], [.cells [.d (.int .i64 k0), .d (.int .i64 n0), .d (.str t0)]]⟩ K G =
    Tr.run
      (.cnd (decide (i < (↑s.length : Int)))
        (.chk (decide (0 ≤ i))
        (.chk (decide (i.toNat < s.length))
        (.cnd (!isDigit (↑(s.getD i.toNat 0).toNat : Int))
          (.ok (.inl (Ex.ret, ⟨slots 104 [(0, PV.d (DV.str s)), (2, PV.ptr 0 0), (3, PV.d (DV.int IntKind.i64 i)), (4, PV.d (DV.int IntKind.i64 (4))), (6, PV.d (DV.int IntKind.i64 n)), (7, PV.d (DV.bool b))], [PObj.cells [PV.d (DV.int IntKind.i64 (0)), PV.d (DV.int IntKind.i64 (0)), PV.d (DV.str [])]]⟩)))
          (.chk (decide (0 ≤ i))
          (.chk (decide (i.toNat < s.length))
          (.cnd (decide (a = 0))
            (.cnd (b)
              (.ok (.inr ⟨slots 104 [(0, PV.d (DV.str s)), (2, PV.ptr 0 0), (3, PV.d (DV.int IntKind.i64 e3)), (4, PV.d (DV.int IntKind.i64 e4)), (5, PV.d (DV.int IntKind.i64 a)), (6, PV.d (DV.int IntKind.i64 n)), (7, PV.d (DV.bool true)), (8, PV.d (DV.int IntKind.i64 (IntKind.i64.wrap (i + 1))))], [PObj.cells [PV.d (DV.int IntKind.i64 k0), PV.d (DV.int IntKind.i64 n0), PV.d (DV.str t0)]]⟩))
              (.cnd (!decide
          (n >
            IntKind.i64.wrap
              ((IntKind.i64.wrap
                    (9223372036854775807 - IntKind.i64.wrap (IntKind.u8.wrap ((↑(s.getD i.toNat 0).toNat : Int) - 48)))).tdiv
                10)))
                (.ok (.inr ⟨slots 104 [(0, PV.d (DV.str s)), (2, PV.ptr 0 0), (3, PV.d (DV.int IntKind.i64 e3)), (4, PV.d (DV.int IntKind.i64 e4)), (5, PV.d (DV.int IntKind.i64 a)), (6, PV.d
        (DV.int IntKind.i64
          (IntKind.i64.wrap
            (IntKind.i64.wrap (10 * n) + IntKind.i64.wrap (IntKind.u8.wrap ((↑(s.getD i.toNat 0).toNat : Int) - 48)))))), (7, PV.d
        (DV.bool
          (decide
            (n >
              IntKind.i64.wrap
                ((IntKind.i64.wrap
                      (9223372036854775807 -
                        IntKind.i64.wrap (IntKind.u8.wrap ((↑(s.getD i.toNat 0).toNat : Int) - 48)))).tdiv
                  10))))), (8, PV.d (DV.int IntKind.i64 (IntKind.i64.wrap (i + 1))))], [PObj.cells [PV.d (DV.int IntKind.i64 k0), PV.d (DV.int IntKind.i64 n0), PV.d (DV.str t0)]]⟩))
                (.ok (.inr ⟨slots 104 [(0, PV.d (DV.str s)), (2, PV.ptr 0 0), (3, PV.d (DV.int IntKind.i64 e3)), (4, PV.d (DV.int IntKind.i64 e4)), (5, PV.d (DV.int IntKind.i64 a)), (6, PV.d (DV.int IntKind.i64 n)), (7, PV.d
        (DV.bool
          (decide
            (n >
              IntKind.i64.wrap
                ((IntKind.i64.wrap
                      (9223372036854775807 -
                        IntKind.i64.wrap (IntKind.u8.wrap ((↑(s.getD i.toNat 0).toNat : Int) - 48)))).tdiv
                  10))))), (8, PV.d (DV.int IntKind.i64 (IntKind.i64.wrap (i + 1))))], [PObj.cells [PV.d (DV.int IntKind.i64 k0), PV.d (DV.int IntKind.i64 n0), PV.d (DV.str t0)]]⟩))))
            (.cnd (b)
              (.ok (.inr ⟨slots 104 [(0, PV.d (DV.str s)), (2, PV.ptr 0 0), (3, PV.d (DV.int IntKind.i64 e3)), (4, PV.d (DV.int IntKind.i64 e4)), (5, PV.d (DV.int IntKind.i64 a)), (6, PV.d (DV.int IntKind.i64 n)), (7, PV.d (DV.bool true)), (8, PV.d (DV.int IntKind.i64 (IntKind.i64.wrap (i + 1))))], [PObj.cells [PV.d (DV.int IntKind.i64 k0), PV.d (DV.int IntKind.i64 n0), PV.d (DV.str t0)]]⟩))
              (.cnd (!decide
          (n <
            IntKind.i64.wrap
              ((IntKind.i64.wrap
                    (-9223372036854775808 + IntKind.i64.wrap (IntKind.u8.wrap ((↑(s.getD i.toNat 0).toNat : Int) - 48)))).tdiv
                10)))
                (.ok (.inr ⟨slots 104 [(0, PV.d (DV.str s)), (2, PV.ptr 0 0), (3, PV.d (DV.int IntKind.i64 e3)), (4, PV.d (DV.int IntKind.i64 e4)), (5, PV.d (DV.int IntKind.i64 a)), (6, PV.d
        (DV.int IntKind.i64
          (IntKind.i64.wrap
            (IntKind.i64.wrap (10 * n) - IntKind.i64.wrap (IntKind.u8.wrap ((↑(s.getD i.toNat 0).toNat : Int) - 48)))))), (7, PV.d
        (DV.bool
          (decide
            (n <
              IntKind.i64.wrap
                ((IntKind.i64.wrap
                      (-9223372036854775808 +
                        IntKind.i64.wrap (IntKind.u8.wrap ((↑(s.getD i.toNat 0).toNat : Int) - 48)))).tdiv
                  10))))), (8, PV.d (DV.int IntKind.i64 (IntKind.i64.wrap (i + 1))))], [PObj.cells [PV.d (DV.int IntKind.i64 k0), PV.d (DV.int IntKind.i64 n0), PV.d (DV.str t0)]]⟩))
                (.ok (.inr ⟨slots 104 [(0, PV.d (DV.str s)), (2, PV.ptr 0 0), (3, PV.d (DV.int IntKind.i64 e3)), (4, PV.d (DV.int IntKind.i64 e4)), (5, PV.d (DV.int IntKind.i64 a)), (6, PV.d (DV.int IntKind.i64 n)), (7, PV.d
        (DV.bool
          (decide
            (n <
              IntKind.i64.wrap
                ((IntKind.i64.wrap
                      (-9223372036854775808 +
                        IntKind.i64.wrap (IntKind.u8.wrap ((↑(s.getD i.toNat 0).toNat : Int) - 48)))).tdiv
                  10))))), (8, PV.d (DV.int IntKind.i64 (IntKind.i64.wrap (i + 1))))], [PObj.cells [PV.d (DV.int IntKind.i64 k0), PV.d (DV.int IntKind.i64 n0), PV.d (DV.str t0)]]⟩))))))))))
        (.ok (.inl (Ex.exit 0, ⟨slots 104 [(0, PV.d (DV.str s)), (2, PV.ptr 0 0), (3, PV.d (DV.int IntKind.i64 e3)), (4, PV.d (DV.int IntKind.i64 e4)), (6, PV.d (DV.int IntKind.i64 n)), (7, PV.d (DV.bool b))], [PObj.cells [PV.d (DV.int IntKind.i64 k0), PV.d (DV.int IntKind.i64 n0), PV.d (DV.str t0)]]⟩)))) (rnd K G) := by kernel_rfl
/-! fasti fastiref01.number -/
theorem fn48 : FnOk Tryd.prog 48 104 [.cell 2 33, .tmp 3, .tmp 4] (body Tryd.f48) := ⟨Tryd.f48, Tryd.func48, bodySome _ (by kernel_rfl), by kernel_rfl, by kernel_rfl, by kernel_rfl, by kernel_rfl⟩
theorem run48 (F : Nat) (s : List UInt8) : runP (ctx F [(47, .pure S47), (80, .pure S80)]) L48 104 [.cell 2 33, .tmp 3, .tmp 4] (body Tryd.f48) [.d (.str s)] =
    Tr.val
      (.chk (decide (Int.toNat 0 < s.length))
      (.cnd (decide ((↑(s.getD (Int.toNat 0) 0).toNat : Int) = 45))
        (.cnd (decide (1 = (↑s.length : Int)))
          (.ok (PV.tup
        [PV.d (DV.agg [DV.int IntKind.i64 (0), DV.int IntKind.i64 (0), DV.str []]),
          PV.d (DV.int IntKind.i64 (failN s 1)), PV.d (DV.int IntKind.i64 (failE s 1))]))
          (.chk (decide (Int.toNat 1 < s.length))
          (.cnd (!isDigit (↑(s.getD (Int.toNat 1) 0).toNat : Int))
            (.ok (PV.tup
        [PV.d (DV.agg [DV.int IntKind.i64 (0), DV.int IntKind.i64 (0), DV.str []]),
          PV.d (DV.int IntKind.i64 (failN s 1)), PV.d (DV.int IntKind.i64 (failE s 1))]))
            (.chk (decide (Int.toNat 1 < s.length))
            (.cnd (decide ((↑(s.getD (Int.toNat 1) 0).toNat : Int) = 48))
              (.ok (PV.tup
        [PV.d (DV.agg [DV.int IntKind.i64 (0), DV.int IntKind.i64 (0), DV.str []]),
          PV.d (DV.int IntKind.i64 (failN s 1)), PV.d (DV.int IntKind.i64 (failE s 1))]))
              (.chk (decide (Int.toNat 1 < s.length))
              (.cnd (decide ((↑(s.getD (Int.toNat 1) 0).toNat : Int) = 48))
                (.cnd (decide ((↑s.length : Int) > 1))
                  (.ok (PV.tup
        [PV.d (DV.agg [DV.int IntKind.i64 (0), DV.int IntKind.i64 (0), DV.str []]),
          PV.d (DV.int IntKind.i64 (1)), PV.d (DV.int IntKind.i64 (4))]))
                  (.ok (PV.tup
        [PV.d (DV.agg [DV.int IntKind.i64 (1), DV.int IntKind.i64 (0), DV.str []]),
          PV.d (DV.int IntKind.i64 (1)), PV.d (DV.int IntKind.i64 (0))])))
                (.chk (decide (0 ≤ 1) && decide (1 ≤ (↑s.length : Int)) && decide (s.length ≤ big) &&
          decide (1 = 0 → 0 ≤ 0 ∧ 0 ≤ 9223372036854775807) &&
        decide (1 ≠ 0 → -9223372036854775808 ≤ 0 ∧ 0 ≤ 0))
                (.cnd (decide (digTo s FU 1 < (↑s.length : Int)))
                  (.ok (PV.tup
        [PV.d (DV.agg [DV.int IntKind.i64 (0), DV.int IntKind.i64 (0), DV.str []]),
          PV.d (DV.int IntKind.i64 (digTo s FU 1)), PV.d (DV.int IntKind.i64 (4))]))
                  (.cnd ((accGo s 1 FU 1 0 false).snd)
                    (.ok (PV.tup
        [PV.d (DV.agg [DV.int IntKind.i64 (0), DV.int IntKind.i64 (0), DV.str []]),
          PV.d (DV.int IntKind.i64 (0)), PV.d (DV.int IntKind.i64 (5))]))
                    (.ok (PV.tup
        [PV.d (DV.agg [DV.int IntKind.i64 (1), DV.int IntKind.i64 (accGo s 1 FU 1 0 false).fst, DV.str []]),
          PV.d (DV.int IntKind.i64 (↑s.length : Int)), PV.d (DV.int IntKind.i64 (0))]))))))))))))
        (.cnd (decide (0 = (↑s.length : Int)))
          (.ok (PV.tup
        [PV.d (DV.agg [DV.int IntKind.i64 (0), DV.int IntKind.i64 (0), DV.str []]),
          PV.d (DV.int IntKind.i64 (failN s 0)), PV.d (DV.int IntKind.i64 (failE s 0))]))
          (.chk (decide (Int.toNat 0 < s.length))
          (.cnd (!isDigit (↑(s.getD (Int.toNat 0) 0).toNat : Int))
            (.ok (PV.tup
        [PV.d (DV.agg [DV.int IntKind.i64 (0), DV.int IntKind.i64 (0), DV.str []]),
          PV.d (DV.int IntKind.i64 (failN s 0)), PV.d (DV.int IntKind.i64 (failE s 0))]))
            (.chk (decide (Int.toNat 0 < s.length))
            (.cnd (decide ((↑(s.getD (Int.toNat 0) 0).toNat : Int) = 48))
              (.chk (decide (Int.toNat 0 < s.length))
              (.cnd (decide ((↑(s.getD (Int.toNat 0) 0).toNat : Int) = 48))
                (.cnd (decide ((↑s.length : Int) > 1))
                  (.ok (PV.tup
        [PV.d (DV.agg [DV.int IntKind.i64 (0), DV.int IntKind.i64 (0), DV.str []]),
          PV.d (DV.int IntKind.i64 (1)), PV.d (DV.int IntKind.i64 (4))]))
                  (.ok (PV.tup
        [PV.d (DV.agg [DV.int IntKind.i64 (1), DV.int IntKind.i64 (0), DV.str []]),
          PV.d (DV.int IntKind.i64 (1)), PV.d (DV.int IntKind.i64 (0))])))
                (.chk (decide (0 ≤ 0) && decide (0 ≤ (↑s.length : Int)) && decide (s.length ≤ big) &&
          decide (0 = 0 → 0 ≤ 0 ∧ 0 ≤ 9223372036854775807) &&
        decide (0 ≠ 0 → -9223372036854775808 ≤ 0 ∧ 0 ≤ 0))
                (.cnd (decide (digTo s FU 0 < (↑s.length : Int)))
                  (.ok (PV.tup
        [PV.d (DV.agg [DV.int IntKind.i64 (0), DV.int IntKind.i64 (0), DV.str []]),
          PV.d (DV.int IntKind.i64 (digTo s FU 0)), PV.d (DV.int IntKind.i64 (4))]))
                  (.cnd ((accGo s 0 FU 0 0 false).snd)
                    (.ok (PV.tup
        [PV.d (DV.agg [DV.int IntKind.i64 (0), DV.int IntKind.i64 (0), DV.str []]),
          PV.d (DV.int IntKind.i64 (0)), PV.d (DV.int IntKind.i64 (5))]))
                    (.ok (PV.tup
        [PV.d (DV.agg [DV.int IntKind.i64 (1), DV.int IntKind.i64 (accGo s 0 FU 0 0 false).fst, DV.str []]),
          PV.d (DV.int IntKind.i64 (↑s.length : Int)), PV.d (DV.int IntKind.i64 (0))])))))))
              (.chk (decide (Int.toNat 0 < s.length))
              (.cnd (decide ((↑(s.getD (Int.toNat 0) 0).toNat : Int) = 48))
                (.cnd (decide ((↑s.length : Int) > 1))
                  (.ok (PV.tup
        [PV.d (DV.agg [DV.int IntKind.i64 (0), DV.int IntKind.i64 (0), DV.str []]),
          PV.d (DV.int IntKind.i64 (1)), PV.d (DV.int IntKind.i64 (4))]))
                  (.ok (PV.tup
        [PV.d (DV.agg [DV.int IntKind.i64 (1), DV.int IntKind.i64 (0), DV.str []]),
          PV.d (DV.int IntKind.i64 (1)), PV.d (DV.int IntKind.i64 (0))])))
                (.chk (decide (0 ≤ 0) && decide (0 ≤ (↑s.length : Int)) && decide (s.length ≤ big) &&
          decide (0 = 0 → 0 ≤ 0 ∧ 0 ≤ 9223372036854775807) &&
        decide (0 ≠ 0 → -9223372036854775808 ≤ 0 ∧ 0 ≤ 0))
                (.cnd (decide (digTo s FU 0 < (↑s.length : Int)))
                  (.ok (PV.tup
        [PV.d (DV.agg [DV.int IntKind.i64 (0), DV.int IntKind.i64 (0), DV.str []]),
          PV.d (DV.int IntKind.i64 (digTo s FU 0)), PV.d (DV.int IntKind.i64 (4))]))
                  (.cnd ((accGo s 0 FU 0 0 false).snd)
                    (.ok (PV.tup
        [PV.d (DV.agg [DV.int IntKind.i64 (0), DV.int IntKind.i64 (0), DV.str []]),
          PV.d (DV.int IntKind.i64 (0)), PV.d (DV.int IntKind.i64 (5))]))
                    (.ok (PV.tup
        [PV.d (DV.agg [DV.int IntKind.i64 (1), DV.int IntKind.i64 (accGo s 0 FU 0 0 false).fst, DV.str []]),
          PV.d (DV.int IntKind.i64 (↑s.length : Int)), PV.d (DV.int IntKind.i64 (0))])))))))))))))) := by kernel_rfl
end Go.PS
end

section
namespace Go.PS
open Go.Proofs

theorem tdiv_np {x : Int} (h : x ≤ 0) : x.tdiv 10 = -((-x) / 10) := by
  have : x = -(-x) := by omega
  conv => lhs; rw [this]
  rw [Int.neg_tdiv, tdiv_nn (by omega)]

def ext48 {R : Type} (K : Ex → St → Option R) (s : List UInt8) (e3 e4 k0 n0 : Int) (t0 : List UInt8) (j : Int) (r : Int × Bool) : Option R :=
  PS.cnd (decide (j < s.length))
    (K .ret ⟨slots 104 [(0, .d (.str s)), (2, .ptr 0 0), (3, .d (.int .i64 j)), (4, .d (.int .i64 4)), (6, .d (.int .i64 r.1)), (7, .d (.bool r.2))], [.cells [.d (.int .i64 0), .d (.int .i64 0), .d (.str [])]]⟩)
    (K (.exit 0) ⟨slots 104 [(0, .d (.str s)), (2, .ptr 0 0), (3, .d (.int .i64 e3)), (4, .d (.int .i64 e4)), (6, .d (.int .i64 r.1)), (7, .d (.bool r.2))], [.cells [.d (.int .i64 k0), .d (.int .i64 n0), .d (.str t0)]]⟩)

set_option maxHeartbeats 2000000 in
theorem loop48 (F : Nat) {R : Type} (s : List UInt8) (a e3 e4 k0 n0 : Int) (t0 : List UInt8) (K : Ex → St → Option R) (hs : s.length ≤ 1000000) :
    ∀ (m : Nat) (i n : Int) (b : Bool), 0 ≤ i → i ≤ s.length → (a = 0 → 0 ≤ n ∧ n ≤ 9223372036854775807) → (a ≠ 0 → -9223372036854775808 ≤ n ∧ n ≤ 0) → (s.length - i).toNat < m →
      loopK (pcodeK (ctx F [(47, .pure S47), (80, .pure S80)]) L48 (lp Tryd.f48 0)) 1 (allBut 104 [0, 2, 3, 4, 5, 6, 7, 8] ++ temps (lp Tryd.f48 0)) (allBut 104 [0, 2, 3, 4, 6, 7]) m
        ⟨slots 104 [(0, .d (.str s)), (2, .ptr 0 0), (3, .d (.int .i64 e3)), (4, .d (.int .i64 e4)), (5, .d (.int .i64 a)), (6, .d (.int .i64 n)), (7, .d (.bool b)), (8, .d (.int .i64 i))], [.cells [.d (.int .i64 k0), .d (.int .i64 n0), .d (.str t0)]]⟩ K =
      ext48 K s e3 e4 k0 n0 t0 (digTo s m i) (accGo s a m i n b) := by
  intro m
  induction m with
  | zero => intro i n b _ _ _ _ hm; omega
  | succ m ih =>
    intro i n b h0 h1 hp hq hm
    rw [loopK_succ, round48_0]
    have hch := chr_nonneg s i
    have hcl := chr_lt s i
    simp only [Tr.run, rnd, chr_def]
    by_cases hk : i < s.length
    · have hkn : i.toNat < s.length := by omega
      rw [cnd_t (b := decide (i < (s.length : Int))) (decide_eq_true hk)]
      simp only [chk_t (decide_eq_true h0), chk_t (decide_eq_true hkn)]
      by_cases d : isDigit (chr s i) = true
      · have dd := (isDigit_iff _).1 d
        have w1 : IntKind.u8.wrap (chr s i - 48) = chr s i - 48 := wrap8 (by omega) (by omega)
        have w2 : IntKind.i64.wrap (chr s i - 48) = chr s i - 48 := wrap64 (by omega) (by omega)
        have w3 : IntKind.i64.wrap (9223372036854775807 - (chr s i - 48)) = 9223372036854775807 - (chr s i - 48) := wrap64 (by omega) (by omega)
        have w4 : IntKind.i64.wrap ((9223372036854775807 - (chr s i - 48)) / 10) = (9223372036854775807 - (chr s i - 48)) / 10 := wrap64 (by omega) (by omega)
        have w5 : IntKind.i64.wrap (-9223372036854775808 + (chr s i - 48)) = -9223372036854775808 + (chr s i - 48) := wrap64 (by omega) (by omega)
        have t1 : (9223372036854775807 - (chr s i - 48)).tdiv 10 = (9223372036854775807 - (chr s i - 48)) / 10 := tdiv_nn (by omega)
        have t2 : (-9223372036854775808 + (chr s i - 48)).tdiv 10 = -((-(-9223372036854775808 + (chr s i - 48))) / 10) := tdiv_np (by omega)
        have w6 : IntKind.i64.wrap ((-9223372036854775808 + (chr s i - 48)).tdiv 10) = (-9223372036854775808 + (chr s i - 48)).tdiv 10 := by rw [t2]; exact wrap64 (by omega) (by omega)
        have w7 : IntKind.i64.wrap (i + 1) = i + 1 := wrap64 (by omega) (by omega)
        have hD : digTo s (m + 1) i = digTo s m (i + 1) := by simp only [digTo, if_pos (show i < (s.length : Int) ∧ isDigit (chr s i) = true from ⟨hk, d⟩)]
        rw [cnd_f (b := !isDigit (chr s i)) (by simp [d])]
        simp only [w1, w2, w3, t1, w4, w5, w6, w7]
        rw [hD]
        by_cases ha : a = 0
        · obtain ⟨p0, p1⟩ := hp ha
          rw [cnd_t (b := decide (a = 0)) (decide_eq_true ha)]
          have hA : accGo s a (m + 1) i n b = accGo s a m (i + 1) (if (b || decide (n > (9223372036854775807 - (chr s i - 48)) / 10)) = true then n else 10 * n + (chr s i - 48)) (b || decide (n > (9223372036854775807 - (chr s i - 48)) / 10)) := by
            simp only [accGo, if_pos (show i < (s.length : Int) ∧ isDigit (chr s i) = true from ⟨hk, d⟩), if_pos ha]
          cases b with
          | true =>
            rw [cnd_tt, ih (i + 1) n true (by omega) (by omega) hp hq (by omega), hA]
            simp
          | false =>
            rw [cnd_ff]
            by_cases g : n > (9223372036854775807 - (chr s i - 48)) / 10
            · rw [cnd_f (by simp [g]), ih (i + 1) n _ (by omega) (by omega) hp hq (by omega), hA]
              simp [g]
            · have w8 : IntKind.i64.wrap (10 * n) = 10 * n := wrap64 (by omega) (by omega)
              have w9 : IntKind.i64.wrap (10 * n + (chr s i - 48)) = 10 * n + (chr s i - 48) := wrap64 (by omega) (by omega)
              simp only [w8, w9]
              rw [cnd_t (by simp [g]), ih (i + 1) _ _ (by omega) (by omega) (fun _ => by omega) (fun h => absurd ha h) (by omega), hA]
              simp [g]
        · obtain ⟨p0, p1⟩ := hq ha
          rw [cnd_f (b := decide (a = 0)) (decide_eq_false ha)]
          have hA : accGo s a (m + 1) i n b = accGo s a m (i + 1) (if (b || decide (n < (-9223372036854775808 + (chr s i - 48)).tdiv 10)) = true then n else 10 * n - (chr s i - 48)) (b || decide (n < (-9223372036854775808 + (chr s i - 48)).tdiv 10)) := by
            simp only [accGo, if_pos (show i < (s.length : Int) ∧ isDigit (chr s i) = true from ⟨hk, d⟩), if_neg ha]
          cases b with
          | true =>
            rw [cnd_tt, ih (i + 1) n true (by omega) (by omega) hp hq (by omega), hA]
            simp
          | false =>
            rw [cnd_ff]
            by_cases g : n < (-9223372036854775808 + (chr s i - 48)).tdiv 10
            · rw [cnd_f (by simp [g]), ih (i + 1) n _ (by omega) (by omega) hp hq (by omega), hA]
              simp [g]
            · have g' := g
              rw [t2] at g'
              have w8 : IntKind.i64.wrap (10 * n) = 10 * n := wrap64 (by omega) (by omega)
              have w9 : IntKind.i64.wrap (10 * n - (chr s i - 48)) = 10 * n - (chr s i - 48) := wrap64 (by omega) (by omega)
              simp only [w8, w9]
              rw [cnd_t (by simp [g]), ih (i + 1) _ _ (by omega) (by omega) (fun h => absurd h ha) (fun _ => by omega) (by omega), hA]
              simp [g]
      · have hD : digTo s (m + 1) i = i := by simp only [digTo, if_neg (show ¬ (i < (s.length : Int) ∧ isDigit (chr s i) = true) from fun h => d h.2)]
        have hA : accGo s a (m + 1) i n b = (n, b) := by simp only [accGo, if_neg (show ¬ (i < (s.length : Int) ∧ isDigit (chr s i) = true) from fun h => d h.2)]
        rw [cnd_t (b := !isDigit (chr s i)) (by simpa using d), hD, hA]
        unfold ext48
        rw [cnd_t (b := decide (i < (s.length : Int))) (decide_eq_true hk)]
    · have hD : digTo s (m + 1) i = i := by simp only [digTo, if_neg (show ¬ (i < (s.length : Int) ∧ isDigit (chr s i) = true) from fun h => hk h.1)]
      have hA : accGo s a (m + 1) i n b = (n, b) := by simp only [accGo, if_neg (show ¬ (i < (s.length : Int) ∧ isDigit (chr s i) = true) from fun h => hk h.1)]
      rw [cnd_f (b := decide (i < (s.length : Int))) (decide_eq_false hk), hD, hA]
      unfold ext48
      rw [cnd_f (b := decide (i < (s.length : Int))) (decide_eq_false hk)]
end Go.PS
end

section
namespace Go.PS
open Go.Proofs

theorem drop_cons (s : List UInt8) (k : Nat) (h : k < s.length) : s.drop k = s.getD k 0 :: s.drop (k + 1) := by
  rw [List.drop_eq_getElem_cons h]
  simp [h]

theorem accGo_true (s : List UInt8) (a : Int) : ∀ (m : Nat) (i n : Int), (accGo s a m i n true).2 = true := by
  intro m
  induction m with
  | zero => intro i n; rfl
  | succ m ih =>
    intro i n
    simp only [accGo]
    split
    · split
      · simp only [Bool.true_or]; exact ih _ _
      · simp only [Bool.true_or]; exact ih _ _
    · rfl

/-- the digits from a place on are all there is -/
def allDig (l : List UInt8) : Prop := ∀ c ∈ l, 48 ≤ c.toNat ∧ c.toNat ≤ 57

theorem parse_ge : ∀ (l : List UInt8) (acc : Nat), allDig l → Lib.parseUint10 acc l = .range ∨ ∃ u, Lib.parseUint10 acc l = .ok u ∧ acc ≤ u := by
  intro l
  induction l with
  | nil => intro acc _; exact .inr ⟨acc, rfl, Nat.le_refl _⟩
  | cons c l ih =>
    intro acc h
    have hc := h c (List.mem_cons_self ..)
    simp only [Lib.parseUint10, if_pos hc]
    split
    · exact .inl rfl
    · split
      · exact .inl rfl
      · rcases ih (acc * 10 + (c.toNat - 48)) (fun x hx => h x (List.mem_cons_of_mem _ hx)) with h1 | ⟨u, h1, h2⟩
        · exact .inl h1
        · exact .inr ⟨u, h1, by omega⟩

theorem allDig_of (s : List UInt8) : ∀ (m k : Nat), k ≤ s.length → s.length - k < m → digTo s m k = s.length → allDig (s.drop k) := by
  intro m
  induction m with
  | zero => intro k _ h; omega
  | succ m ih =>
    intro k hk hm h
    by_cases hl : k < s.length
    · simp only [digTo] at h
      by_cases hd : (k : Int) < s.length ∧ isDigit (chr s k) = true
      · rw [if_pos hd] at h
        have hi := ih (k + 1) (by omega) (by omega) (by simpa using h)
        rw [drop_cons s k hl]
        intro c hc
        rcases List.mem_cons.1 hc with rfl | hc
        · have := (isDigit_iff _).1 hd.2
          unfold chr at this
          simp only [Int.toNat_natCast] at this
          omega
        · exact hi c hc
      · rw [if_neg hd] at h; omega
    · rw [List.drop_eq_nil_of_le (by omega)]
      intro c hc; simp at hc

theorem chr_k (s : List UInt8) (k : Nat) : chr s (k : Int) = ((s.getD k 0).toNat : Int) := by unfold chr; simp

theorem accGo_pos (s : List UInt8) : ∀ (m k acc : Nat), k ≤ s.length → s.length - k < m → allDig (s.drop k) → acc ≤ 9223372036854775807 →
    ((accGo s 0 m k acc false).2 = false ∧ ∃ u, Lib.parseUint10 acc (s.drop k) = .ok u ∧ (accGo s 0 m k acc false).1 = (u : Int) ∧ u ≤ 9223372036854775807) ∨
    ((accGo s 0 m k acc false).2 = true ∧ (Lib.parseUint10 acc (s.drop k) = .range ∨ ∃ u, Lib.parseUint10 acc (s.drop k) = .ok u ∧ 9223372036854775808 ≤ u)) := by
  intro m
  induction m with
  | zero => intro k acc _ h; omega
  | succ m ih =>
    intro k acc hk hm hd ha
    by_cases hl : k < s.length
    · have hdr := drop_cons s k hl
      rw [hdr] at hd ⊢
      have hc := hd _ (List.mem_cons_self ..)
      have hd' : allDig (s.drop (k + 1)) := fun x hx => hd x (List.mem_cons_of_mem _ hx)
      have hck := chr_k s k
      have hcond : (k : Int) < s.length ∧ isDigit (chr s k) = true := ⟨by omega, (isDigit_iff _).2 (by omega)⟩
      simp only [accGo, if_pos hcond, if_true, Bool.false_or, Lib.parseUint10, if_pos hc]
      generalize (s.getD k 0).toNat = d at hc hck
      by_cases g : (acc : Int) > (9223372036854775807 - (chr s k - 48)) / 10
      · right
        rw [decide_eq_true g, if_pos rfl]
        refine ⟨accGo_true _ _ _ _ _, ?_⟩
        split
        · exact .inl rfl
        · split
          · exact .inl rfl
          · rcases parse_ge (s.drop (k + 1)) (acc * 10 + (d - 48)) hd' with h1 | ⟨u, h1, h2⟩
            · exact .inl h1
            · exact .inr ⟨u, h1, by omega⟩
      · rw [decide_eq_false g, if_neg (by simp), if_neg (by omega), if_neg (by omega)]
        have e : (10 * (acc : Int) + (chr s k - 48)) = ((acc * 10 + (d - 48) : Nat) : Int) := by omega
        rw [e]
        exact ih (k + 1) _ (by omega) (by omega) hd' (by omega)
    · rw [List.drop_eq_nil_of_le (by omega)]
      left
      have hcond : ¬ ((k : Int) < s.length ∧ isDigit (chr s k) = true) := by omega
      simp only [accGo, if_neg hcond, Lib.parseUint10]
      exact ⟨trivial, acc, rfl, rfl, ha⟩

theorem accGo_neg (s : List UInt8) : ∀ (m k acc : Nat), k ≤ s.length → s.length - k < m → allDig (s.drop k) → acc ≤ 9223372036854775808 →
    ((accGo s 1 m k (-acc) false).2 = false ∧ ∃ u, Lib.parseUint10 acc (s.drop k) = .ok u ∧ (accGo s 1 m k (-acc) false).1 = -(u : Int) ∧ u ≤ 9223372036854775808) ∨
    ((accGo s 1 m k (-acc) false).2 = true ∧ (Lib.parseUint10 acc (s.drop k) = .range ∨ ∃ u, Lib.parseUint10 acc (s.drop k) = .ok u ∧ 9223372036854775808 < u)) := by
  intro m
  induction m with
  | zero => intro k acc _ h; omega
  | succ m ih =>
    intro k acc hk hm hd ha
    by_cases hl : k < s.length
    · have hdr := drop_cons s k hl
      rw [hdr] at hd ⊢
      have hc := hd _ (List.mem_cons_self ..)
      have hd' : allDig (s.drop (k + 1)) := fun x hx => hd x (List.mem_cons_of_mem _ hx)
      have hck := chr_k s k
      have hcond : (k : Int) < s.length ∧ isDigit (chr s k) = true := ⟨by omega, (isDigit_iff _).2 (by omega)⟩
      have h10 : ¬ ((1 : Int) = 0) := by omega
      simp only [accGo, if_pos hcond, if_neg h10, Bool.false_or, Lib.parseUint10, if_pos hc]
      generalize (s.getD k 0).toNat = d at hc hck
      have t2 : (-9223372036854775808 + (chr s k - 48)).tdiv 10 = -((-(-9223372036854775808 + (chr s k - 48))) / 10) := tdiv_np (by omega)
      rw [t2]
      by_cases g : (-acc : Int) < -((-(-9223372036854775808 + (chr s k - 48))) / 10)
      · right
        rw [decide_eq_true g, if_pos rfl]
        refine ⟨accGo_true _ _ _ _ _, ?_⟩
        split
        · exact .inl rfl
        · split
          · exact .inl rfl
          · rcases parse_ge (s.drop (k + 1)) (acc * 10 + (d - 48)) hd' with h1 | ⟨u, h1, h2⟩
            · exact .inl h1
            · exact .inr ⟨u, h1, by omega⟩
      · rw [decide_eq_false g, if_neg (by simp), if_neg (by omega), if_neg (by omega)]
        have e : (10 * (-acc : Int) - (chr s k - 48)) = -((acc * 10 + (d - 48) : Nat) : Int) := by omega
        rw [e]
        exact ih (k + 1) _ (by omega) (by omega) hd' (by omega)
    · rw [List.drop_eq_nil_of_le (by omega)]
      left
      have hcond : ¬ ((k : Int) < s.length ∧ isDigit (chr s k) = true) := by omega
      simp only [accGo, if_neg hcond, Lib.parseUint10]
      exact ⟨trivial, acc, rfl, rfl, ha⟩

/-- the reference's number is the library's -/
theorem acc_atoi (s : List UInt8) (h0 : 1 ≤ s.length) (hs : s.length ≤ big) (hd : digTo s FU (numAt s) = s.length) (hn : numAt s < s.length) :
    (accGo s (numAt s) FU (numAt s) 0 false).2 = !atoiOk s ∧ (atoiOk s = true → (accGo s (numAt s) FU (numAt s) 0 false).1 = atoiV s) := by
  have hs : s.length ≤ 1000000 := hs
  obtain ⟨c, r, rfl⟩ : ∃ c r, s = c :: r := by
    cases s with
    | nil => simp at h0
    | cons c r => exact ⟨c, r, rfl⟩
  have hc0 : chr (c :: r) 0 = (c.toNat : Int) := by simp [chr]
  unfold numAt at hd hn ⊢
  rw [hc0] at hd hn ⊢
  unfold atoiOk atoiV Lib.atoiAll
  by_cases hm : (c.toNat : Int) = 45
  · have hm' : c.toNat = 45 := by omega
    rw [if_pos hm] at hd hn ⊢
    have hr : r ≠ [] := by rintro rfl; simp at hn
    have := accGo_neg (c :: r) FU 1 0 (by simp) (by unfold FU; omega) (allDig_of _ FU 1 (by simp) (by unfold FU; omega) hd) (by omega)
    simp only [List.drop_succ_cons, List.drop_zero] at this
    have e0 : (-((0 : Nat) : Int)) = 0 := rfl
    have e1 : ((1 : Nat) : Int) = 1 := rfl
    rw [e0, e1] at this
    simp only [hm', or_true, if_true, Lib.parseMag, if_neg hr, not_true_eq_false, false_and, true_and, if_false]
    rcases this with ⟨h1, u, h2, h3, h4⟩ | ⟨h1, h2 | ⟨u, h2, h3⟩⟩
    · rw [h1, h2]
      dsimp only
      rw [if_neg (by omega)]
      exact ⟨rfl, fun _ => h3⟩
    · rw [h1, h2]
      exact ⟨rfl, fun h => by simp at h⟩
    · rw [h1, h2]
      dsimp only
      rw [if_pos h3]
      exact ⟨rfl, fun h => by simp at h⟩
  · have hm' : ¬ c.toNat = 45 := by omega
    rw [if_neg hm] at hd hn ⊢
    have hall := allDig_of _ FU 0 (by omega) (by unfold FU; omega) hd
    rw [List.drop_zero] at hall
    have hcd := hall c (List.mem_cons_self ..)
    have h43 : ¬ (c.toNat = 43 ∨ c.toNat = 45) := by omega
    have := accGo_pos (c :: r) FU 0 0 (by omega) (by unfold FU; omega) hall (by omega)
    rw [List.drop_zero] at this
    have e0 : ((0 : Nat) : Int) = 0 := rfl
    rw [e0] at this
    have h43' : ¬ c.toNat = 43 := by omega
    simp only [h43', hm', or_self, if_false, Lib.parseMag, reduceCtorEq, not_false_eq_true, true_and, false_and]
    rcases this with ⟨h1, u, h2, h3, h4⟩ | ⟨h1, h2 | ⟨u, h2, h3⟩⟩
    · rw [h1, h2]
      dsimp only
      rw [if_neg (by omega)]
      exact ⟨rfl, fun _ => h3⟩
    · rw [h1, h2]
      exact ⟨rfl, fun h => by simp at h⟩
    · rw [h1, h2]
      dsimp only
      rw [if_pos h3]
      exact ⟨rfl, fun h => by simp at h⟩
end Go.PS
end

section
namespace Go.PS
open Go.Proofs

theorem chr_fold (s : List UInt8) (m : Int) : ((s.getD m.toNat 0).toNat : Int) = chr s m := by cases s <;> exact chr_def _ _
theorem cnd_p {R : Type} {p : Prop} {inst : Decidable p} {x y : Option R} (h : p) : PS.cnd (@decide p inst) x y = x := by rw [decide_eq_true h]; rfl
theorem cnd_n {R : Type} {p : Prop} {inst : Decidable p} {x y : Option R} (h : ¬ p) : PS.cnd (@decide p inst) x y = y := by rw [decide_eq_false h]; rfl
theorem chk_p {R : Type} {p : Prop} {inst : Decidable p} {x : Option R} (h : p) : PS.chk (@decide p inst) x = x := by rw [decide_eq_true h]; rfl

theorem lps48 (F : Nat) (hF : F = FU) : LpsOk (ctx F [(47, .pure S47), (80, .pure S80)]) L48 (loopsOf (body Tryd.f48)) := by
  refine lps_one (c := lp Tryd.f48 0) rfl (by kernel_rfl) fun R st K r h => ?_
  unfold T48 at h
  cases hs : shape 104 [0, 2, 3, 4, 5, 6, 7, 8] st.slots with
  | false => rw [hs] at h; simp [Tr.run] at h
  | true =>
  rw [hs] at h
  simp only [cond_true] at h
  have he := shape_eq hs
  obtain ⟨sl0, H⟩ := st
  dsimp only at h he ⊢
  split at h
  · rename_i s e3 e4 a n b i k0 n0 t0 g0 g2 g3 g4 g5 g6 g7 g8
    simp only [List.map_cons, List.map_nil, g0, g2, g3, g4, g5, g6, g7, g8] at he
    subst he
    simp only [Tr.run] at h
    cases hc : (decide (0 ≤ i) && decide (i ≤ s.length) && decide (s.length ≤ big) && decide (a = 0 → 0 ≤ n ∧ n ≤ 9223372036854775807) && decide (a ≠ 0 → -9223372036854775808 ≤ n ∧ n ≤ 0)) with
    | false => rw [hc] at h; simp at h
    | true =>
    rw [hc] at h
    simp only [Bool.and_eq_true, decide_eq_true_eq] at hc
    obtain ⟨⟨⟨⟨h0, h1⟩, h2⟩, h3⟩, h4⟩ := hc
    unfold big at h2
    refine (loop48 F s a e3 e4 k0 n0 t0 K h2 F i n b h0 h1 h3 h4 (by rw [hF]; unfold FU; omega)).trans ?_
    rw [← h, hF]
    rfl
  · simp [Tr.run] at h

theorem digTo_fuel (s : List UInt8) : ∀ (m m' : Nat) (i : Int), 0 ≤ i → i ≤ s.length → (s.length - i).toNat < m → (s.length - i).toNat < m' → digTo s m i = digTo s m' i := by
  intro m
  induction m with
  | zero => intro m' i _ _ h; omega
  | succ m ih =>
    intro m' i h0 h1 hm hm'
    obtain ⟨m', rfl⟩ : ∃ q, m' = q + 1 := ⟨m' - 1, by omega⟩
    simp only [digTo]
    split
    · exact ih m' (i + 1) (by omega) (by omega) (by omega) (by omega)
    · rfl
theorem digTo_step (s : List UInt8) (i : Int) (h0 : 0 ≤ i) (hs : s.length ≤ big) (h : i < s.length ∧ isDigit (chr s i) = true) : digTo s FU i = digTo s FU (i + 1) := by
  have hs : s.length ≤ 1000000 := hs
  have : digTo s FU i = digTo s (FU - 1) (i + 1) := by
    have e : FU = (FU - 1) + 1 := rfl
    conv => lhs; rw [e]
    simp only [digTo, if_pos h]
  rw [this]
  exact digTo_fuel s _ _ _ (by omega) (by omega) (by unfold FU; omega) (by unfold FU; omega)
theorem digTo_le (s : List UInt8) : ∀ (m : Nat) (i : Int), i ≤ s.length → digTo s m i ≤ s.length := by
  intro m
  induction m with
  | zero => intro i h; exact h
  | succ m ih =>
    intro i h
    simp only [digTo]
    split
    · exact ih _ (by omega)
    · exact h

def S48 : List PV → Tr PV
  | [.d (.str s)] => .chk (decide (1 ≤ s.length) && decide (s.length ≤ big)) (.ok (numR s).pv)
  | _ => .no

set_option maxHeartbeats 2000000 in
theorem ok48 (W0 : World) : EKOk Tryd.prog W0 48 (.pure S48) := by
  refine pure_of (tyOk FU [(47, .pure S47), (80, .pure S80)]) (look_ok (all_cons (ok47 W0) (all_cons (ok80 W0) all_nil))) mixed fn48 (lps48 FU rfl) fun args r h => ?_
  unfold S48 at h
  split at h
  · rename_i s
    refine (run48 FU s).trans ?_
    rw [← h]
    simp only [Tr.val_chk, chk_some, Bool.and_eq_true, decide_eq_true_eq] at h
    obtain ⟨⟨h0, h1⟩, _⟩ := h
    have hbig : s.length ≤ 1000000 := h1
    simp only [Tr.val_ok, Tr.val_cnd, Tr.val_chk, chr_fold]
    rw [chk_t (b := decide (1 ≤ s.length) && decide (s.length ≤ big)) (by simp [h0, h1])]
    have z0 : Int.toNat 0 < s.length := h0
    simp only [chk_p z0]
    have hlp : (0 : Int) < s.length := by omega
    have hacc := acc_atoi s h0 h1
    by_cases m : chr s 0 = 45
    · have hA : numAt s = 1 := by simp only [numAt, if_pos m]
      rw [hA] at hacc
      rw [cnd_p (p := chr s 0 = 45) (m)]
      by_cases q : (1 : Int) < s.length
      · have z1 : Int.toNat 1 < s.length := by show 1 < s.length; omega
        rw [cnd_n (p := (1 : Int) = s.length) ((by omega))]
        simp only [chk_p z1]
        by_cases d : isDigit (chr s 1) = true
        · rw [cnd_f (b := !isDigit (chr s 1)) (by simp [d])]
          by_cases z : chr s 1 = 48
          · have hR : numR s = ⟨0, 0, [], failN s 1, failE s 1, 1, false⟩ := by unfold numR; rw [hA, if_pos (Or.inr ⟨z, rfl⟩)]
            rw [cnd_p (p := chr s 1 = 48) (z), hR]
            rfl
          · have hN : ¬ (¬ ((1 : Int) < s.length ∧ isDigit (chr s 1) = true) ∨ (chr s 1 = 48 ∧ (1 : Int) = 1)) := by
              rintro (h | h)
              · exact h ⟨q, d⟩
              · exact z h.1
            have hst := digTo_step s 1 (by omega) h1 ⟨q, d⟩
            rw [cnd_n (p := chr s 1 = 48) (z), cnd_n (p := chr s 1 = 48) (z),
              chk_t (by simp only [Bool.and_eq_true, decide_eq_true_eq]; exact ⟨⟨⟨⟨by omega, by omega⟩, h1⟩, by omega⟩, by omega⟩)]
            by_cases j : digTo s FU 1 < s.length
            · have hR : numR s = ⟨0, 0, [], digTo s FU 1, 4, digTo s FU 1, false⟩ := by unfold numR; rw [hA, if_neg hN, if_neg z, ← hst, if_pos j]
              rw [cnd_p (p := digTo s FU 1 < (s.length : Int)) (j), hR]
              rfl
            · obtain ⟨a1, a2⟩ := hacc (by have := digTo_le s FU 1 (by omega); omega) q
              rw [cnd_n (p := digTo s FU 1 < (s.length : Int)) (j), a1]
              by_cases o : atoiOk s = true
              · have hR : numR s = ⟨1, atoiV s, [], s.length, 0, s.length, false⟩ := by unfold numR; rw [hA, if_neg hN, if_neg z, ← hst, if_neg j, if_pos o]
                rw [cnd_f (by simp [o]), hR, a2 o]
                rfl
              · have hR : numR s = ⟨0, 0, [], 0, 5, s.length, false⟩ := by unfold numR; rw [hA, if_neg hN, if_neg z, ← hst, if_neg j, if_neg o]
                rw [cnd_t (by simpa using o), hR]
                rfl
        · have hR : numR s = ⟨0, 0, [], failN s 1, failE s 1, 1, false⟩ := by unfold numR; rw [hA, if_pos (Or.inl fun h => d h.2)]
          rw [cnd_t (b := !isDigit (chr s 1)) (by simpa using d), hR]
          rfl
      · have hR : numR s = ⟨0, 0, [], failN s 1, failE s 1, 1, false⟩ := by unfold numR; rw [hA, if_pos (Or.inl fun h => q h.1)]
        rw [cnd_p (p := (1 : Int) = s.length) ((by omega)), hR]
        rfl
    · have hA : numAt s = 0 := by simp only [numAt, if_neg m]
      rw [hA] at hacc
      rw [cnd_n (p := chr s 0 = 45) (m), cnd_n (p := (0 : Int) = s.length) ((by omega))]
      by_cases d : isDigit (chr s 0) = true
      · have hN : ¬ (¬ ((0 : Int) < s.length ∧ isDigit (chr s 0) = true) ∨ (chr s 0 = 48 ∧ (0 : Int) = 1)) := by
          rintro (h | h)
          · exact h ⟨hlp, d⟩
          · exact absurd h.2 (by omega)
        rw [cnd_f (b := !isDigit (chr s 0)) (by simp [d])]
        by_cases z : chr s 0 = 48
        · rw [cnd_p (p := chr s 0 = 48) (z), cnd_p (p := chr s 0 = 48) (z)]
          by_cases q : 1 < s.length
          · have hR : numR s = ⟨0, 0, [], 1, 4, 1, false⟩ := by unfold numR; rw [hA, if_neg hN, if_pos z, if_pos q]
            rw [cnd_p (p := (s.length : Int) > 1) ((by omega)), hR]
            rfl
          · have hR : numR s = ⟨1, 0, [], 1, 0, 1, false⟩ := by unfold numR; rw [hA, if_neg hN, if_pos z, if_neg q]
            rw [cnd_n (p := (s.length : Int) > 1) ((by omega)), hR]
            rfl
        · have hst := digTo_step s 0 (by omega) h1 ⟨hlp, d⟩
          have e01 : (0 : Int) + 1 = 1 := rfl
          rw [cnd_n (p := chr s 0 = 48) (z), cnd_n (p := chr s 0 = 48) (z),
            chk_t (by simp only [Bool.and_eq_true, decide_eq_true_eq]; exact ⟨⟨⟨⟨by omega, by omega⟩, h1⟩, by omega⟩, by omega⟩)]
          by_cases j : digTo s FU 0 < s.length
          · have hR : numR s = ⟨0, 0, [], digTo s FU 0, 4, digTo s FU 0, false⟩ := by unfold numR; rw [hA, if_neg hN, if_neg z, ← hst, if_pos j]
            rw [cnd_p (p := digTo s FU 0 < (s.length : Int)) (j), hR]
            rfl
          · obtain ⟨a1, a2⟩ := hacc (by have := digTo_le s FU 0 (by omega); omega) hlp
            rw [cnd_n (p := digTo s FU 0 < (s.length : Int)) (j), a1]
            by_cases o : atoiOk s = true
            · have hR : numR s = ⟨1, atoiV s, [], s.length, 0, s.length, false⟩ := by unfold numR; rw [hA, if_neg hN, if_neg z, ← hst, if_neg j, if_pos o]
              rw [cnd_f (by simp [o]), hR, a2 o]
              rfl
            · have hR : numR s = ⟨0, 0, [], 0, 5, s.length, false⟩ := by unfold numR; rw [hA, if_neg hN, if_neg z, ← hst, if_neg j, if_neg o]
              rw [cnd_t (by simpa using o), hR]
              rfl
      · have hR : numR s = ⟨0, 0, [], failN s 0, failE s 0, 0, false⟩ := by unfold numR; rw [hA, if_pos (Or.inl fun h => d h.2)]
        rw [cnd_t (b := !isDigit (chr s 0)) (by simpa using d), hR]
        simp only [failN, failE, if_pos hlp]
        rfl
  · simp [Tr.val_no] at h
end Go.PS
end

section
namespace Go.PS
open Go.Proofs
def parseR (s : List UInt8) : VR :=
  if s.length = 0 then ⟨0, 0, [], 0, 3, 0, false⟩
  else if chr s 0 = 34 then textR s
  else if chr s 0 = 45 ∨ isDigit (chr s 0) = true then numR s
  else ⟨0, 0, [], 0, 4, 0, false⟩
def S17 : List PV → Tr PV
  | [.d (.str s)] => .chk (decide (s.length ≤ big)) (.ok (parseR s).pv)
  | _ => .no
/-- strings.HasPrefix -/
def S42 : List PV → Tr PV
  | [.d (.str s), .d (.str p)] => .ok (.d (.bool (decide (p.length ≤ s.length ∧ s.take p.length = p))))
  | _ => .no
end Go.PS
end

section
namespace Go.PS
open Go.Proofs
set_option maxRecDepth 100000
/-! internal stringslite.HasPrefix -/
theorem fn74 : FnOk Tryd.prog 74 18 [.tmp 4] (body Tryd.f74) := ⟨Tryd.f74, Tryd.func74, bodySome _ (by kernel_rfl), by kernel_rfl, by kernel_rfl, by kernel_rfl, by kernel_rfl⟩
theorem run74 (F : Nat) (s p : List UInt8) : runP (ctx F []) noL 18 [.tmp 4] (body Tryd.f74) [.d (.str s), .d (.str p)] =
    Tr.val
      (.cnd (decide ((↑s.length : Int) ≥ (↑p.length : Int)))
        (.chk (decide ((↑p.length : Int) ≤ (↑s.length : Int)))
        (.ok (PV.d (DV.bool (decide (List.drop (↑0 : Int).toNat (List.take (↑p.length : Int).toNat s) = p))))))
        (.ok (PV.d (DV.bool false)))) := by kernel_rfl
/-! strings.HasPrefix -/
theorem fn42 : FnOk Tryd.prog 42 8 [.tmp 4] (body Tryd.f42) := ⟨Tryd.f42, Tryd.func42, bodySome _ (by kernel_rfl), by kernel_rfl, by kernel_rfl, by kernel_rfl, by kernel_rfl⟩
theorem run42 (F : Nat) (s p : List UInt8) : runP (ctx F [(74, .pure S42)]) noL 8 [.tmp 4] (body Tryd.f42) [.d (.str s), .d (.str p)] =
    Tr.val
      (.ok (PV.d (DV.bool (decide (p.length ≤ s.length ∧ List.take p.length s = p))))) := by kernel_rfl
/-! fasti value.Parse -/
theorem fn17 : FnOk Tryd.prog 17 43 [.cell 2 33, .tmp 3, .tmp 4] (body Tryd.f17) := ⟨Tryd.f17, Tryd.func17, bodySome _ (by kernel_rfl), by kernel_rfl, by kernel_rfl, by kernel_rfl, by kernel_rfl⟩
theorem run17 (F : Nat) (s : List UInt8) : runP (ctx F [(42, .pure S42), (43, .eff (frameT S43)), (44, .eff (frameT S44)), (45, .eff (frameT S45))]) noL 43 [.cell 2 33, .tmp 3, .tmp 4] (body Tryd.f17) [.d (.str s)] =
    Tr.val
      (.cnd (decide
        (([34] : List UInt8).length ≤ s.length ∧
          List.take ([34] : List UInt8).length s = ([34] : List UInt8)))
        (.chk (decide (1 ≤ s.length) && decide (s.length ≤ big))
        (.ok (PV.tup
        [PV.d (DV.agg [DV.int IntKind.i64 (textR s).kind, DV.int IntKind.i64 (textR s).n, DV.str (textR s).txt]),
          PV.d (DV.int IntKind.i64 (textR s).pos), PV.d (DV.int IntKind.i64 (textR s).err)])))
        (.cnd (!decide (s = ([] : List UInt8)))
          (.chk (decide (Int.toNat 0 < s.length))
          (.cnd (decide ((↑(s.getD (Int.toNat 0) 0).toNat : Int) = 45))
            (.chk (decide (0 = 0) && decide (1 ≤ s.length) && decide (s.length ≤ big))
            (.ok (PV.tup
        [PV.d (DV.agg [DV.int IntKind.i64 (numR s).kind, DV.int IntKind.i64 (numR s).n, DV.str (numR s).txt]),
          PV.d (DV.int IntKind.i64 (numR s).pos), PV.d (DV.int IntKind.i64 (numR s).err)])))
            (.chk (decide (Int.toNat 0 < s.length))
            (.cnd (decide ((↑(s.getD (Int.toNat 0) 0).toNat : Int) ≥ 48))
              (.chk (decide (Int.toNat 0 < s.length))
              (.cnd (decide ((↑(s.getD (Int.toNat 0) 0).toNat : Int) ≤ 57))
                (.chk (decide (0 = 0) && decide (1 ≤ s.length) && decide (s.length ≤ big))
                (.ok (PV.tup
        [PV.d (DV.agg [DV.int IntKind.i64 (numR s).kind, DV.int IntKind.i64 (numR s).n, DV.str (numR s).txt]),
          PV.d (DV.int IntKind.i64 (numR s).pos), PV.d (DV.int IntKind.i64 (numR s).err)])))
                (.ok (PV.tup
        [PV.d (DV.agg [DV.int IntKind.i64 (0), DV.int IntKind.i64 (0), DV.str []]),
          PV.d (DV.int IntKind.i64 (failN s 0)), PV.d (DV.int IntKind.i64 (failE s 0))]))))
              (.ok (PV.tup
        [PV.d (DV.agg [DV.int IntKind.i64 (0), DV.int IntKind.i64 (0), DV.str []]),
          PV.d (DV.int IntKind.i64 (failN s 0)), PV.d (DV.int IntKind.i64 (failE s 0))]))))))
          (.ok (PV.tup
        [PV.d (DV.agg [DV.int IntKind.i64 (0), DV.int IntKind.i64 (0), DV.str []]),
          PV.d (DV.int IntKind.i64 (failN s 0)), PV.d (DV.int IntKind.i64 (failE s 0))])))) := by kernel_rfl
/-! fasti fastiref01.Parse -/
theorem fn18 : FnOk Tryd.prog 18 33 [.cell 2 33, .tmp 3, .tmp 4] (body Tryd.f18) := ⟨Tryd.f18, Tryd.func18, bodySome _ (by kernel_rfl), by kernel_rfl, by kernel_rfl, by kernel_rfl, by kernel_rfl⟩
theorem run18 (F : Nat) (s : List UInt8) : runP (ctx F [(46, .pure S46), (47, .pure S47), (48, .pure S48)]) noL 33 [.cell 2 33, .tmp 3, .tmp 4] (body Tryd.f18) [.d (.str s)] =
    Tr.val
      (.cnd (decide (s = ([] : List UInt8)))
        (.ok (PV.tup
        [PV.d (DV.agg [DV.int IntKind.i64 (0), DV.int IntKind.i64 (0), DV.str []]),
          PV.d (DV.int IntKind.i64 (0)), PV.d (DV.int IntKind.i64 (3))]))
        (.chk (decide (Int.toNat 0 < s.length))
        (.cnd (decide ((↑(s.getD (Int.toNat 0) 0).toNat : Int) = 34))
          (.chk (decide (1 ≤ s.length) && decide (s.length ≤ big))
          (.ok (PV.tup
        [PV.d (DV.agg [DV.int IntKind.i64 (textR s).kind, DV.int IntKind.i64 (textR s).n, DV.str (textR s).txt]),
          PV.d (DV.int IntKind.i64 (textR s).pos), PV.d (DV.int IntKind.i64 (textR s).err)])))
          (.chk (decide (Int.toNat 0 < s.length))
          (.cnd (decide ((↑(s.getD (Int.toNat 0) 0).toNat : Int) = 45))
            (.chk (decide (1 ≤ s.length) && decide (s.length ≤ big))
            (.ok (PV.tup
        [PV.d (DV.agg [DV.int IntKind.i64 (numR s).kind, DV.int IntKind.i64 (numR s).n, DV.str (numR s).txt]),
          PV.d (DV.int IntKind.i64 (numR s).pos), PV.d (DV.int IntKind.i64 (numR s).err)])))
            (.chk (decide (Int.toNat 0 < s.length))
            (.cnd (isDigit (↑(s.getD (Int.toNat 0) 0).toNat : Int))
              (.chk (decide (1 ≤ s.length) && decide (s.length ≤ big))
              (.ok (PV.tup
        [PV.d (DV.agg [DV.int IntKind.i64 (numR s).kind, DV.int IntKind.i64 (numR s).n, DV.str (numR s).txt]),
          PV.d (DV.int IntKind.i64 (numR s).pos), PV.d (DV.int IntKind.i64 (numR s).err)])))
              (.ok (PV.tup
        [PV.d (DV.agg [DV.int IntKind.i64 (0), DV.int IntKind.i64 (0), DV.str []]),
          PV.d (DV.int IntKind.i64 (0)), PV.d (DV.int IntKind.i64 (4))]))))))))) := by kernel_rfl
end Go.PS
end

section
namespace Go.PS
open Go.Proofs

theorem ok74 (W0 : World) : EKOk Tryd.prog W0 74 (.pure S42) := by
  refine pure_of (tyOk 0 []) (look_ok all_nil) mixed fn74 (lpsOk_no _ _) fun args r h => ?_
  unfold S42 at h
  split at h
  · rename_i s p
    refine (run74 0 s p).trans ?_
    rw [← h]
    simp only [Tr.val_ok, Tr.val_cnd, Tr.val_chk]
    by_cases hl : p.length ≤ s.length
    · rw [cnd_p (p := (s.length : Int) ≥ p.length) (by omega), chk_p (p := (p.length : Int) ≤ s.length) (by omega)]
      simp [hl]
    · rw [cnd_n (p := (s.length : Int) ≥ p.length) (by omega)]
      simp [hl]
  · simp [Tr.val_no] at h

theorem ok42 (W0 : World) : EKOk Tryd.prog W0 42 (.pure S42) := by
  refine pure_of (tyOk 0 [(74, .pure S42)]) (look_ok (all_cons (ok74 W0) all_nil)) mixed fn42 (lpsOk_no _ _) fun args r h => ?_
  unfold S42 at h
  split at h
  · rename_i s p
    exact (run42 0 s p).trans h
  · simp [Tr.val_no] at h

theorem pre_quote (s : List UInt8) : (([34] : List UInt8).length ≤ s.length ∧ List.take ([34] : List UInt8).length s = [34]) ↔ (s.length ≠ 0 ∧ chr s 0 = 34) := by
  cases s with
  | nil => simp
  | cons c r =>
    have hc : chr (c :: r) 0 = (c.toNat : Int) := by simp [chr]
    rw [hc]
    have hb := c.toNat_lt
    constructor
    · rintro ⟨_, h⟩
      simp at h
      subst h
      exact ⟨by simp, rfl⟩
    · rintro ⟨_, h⟩
      have : c = 34 := by
        apply UInt8.toNat_inj.1
        show c.toNat = 34
        omega
      subst this
      simp

theorem ok17 (W0 : World) (hW : Laid W0) : EKOk Tryd.prog W0 17 (.pure S17) := by
  refine pure_of (tyOk 0 [(42, .pure S42), (43, .eff (frameT S43)), (44, .eff (frameT S44)), (45, .eff (frameT S45))]) (look_ok (all_cons (ok42 W0) (all_cons (ok43 W0 hW) (all_cons (ok44 W0 hW) (all_cons (ok45 W0) all_nil))))) mixed fn17 (lpsOk_no _ _) fun args r h => ?_
  unfold S17 at h
  split at h
  · rename_i s
    refine (run17 0 s).trans ?_
    rw [← h]
    simp only [Tr.val_chk, chk_some, decide_eq_true_eq] at h
    obtain ⟨h1, _⟩ := h
    simp only [Tr.val_ok, Tr.val_cnd, Tr.val_chk, chr_fold]
    rw [chk_p (p := s.length ≤ big) h1]
    by_cases h0 : s.length = 0
    · have he : s = [] := List.eq_nil_of_length_eq_zero h0
      subst he
      rw [cnd_n (by simp)]
      rw [cnd_f (by simp)]
      rfl
    · have z0 : Int.toNat 0 < s.length := by show 0 < s.length; omega
      have hne : ¬ s = [] := by rintro rfl; simp at h0
      have hp : (0 : Int) < s.length := by omega
      have hb : (decide (1 ≤ s.length) && decide (s.length ≤ big)) = true := by simp only [Bool.and_eq_true, decide_eq_true_eq]; exact ⟨by omega, h1⟩
      by_cases q : chr s 0 = 34
      · have hR : parseR s = textR s := by simp only [parseR, if_neg h0, if_pos q]
        rw [cnd_p ((pre_quote s).2 ⟨h0, q⟩), chk_t hb, hR]
        rfl
      · rw [cnd_n (fun h => q ((pre_quote s).1 h).2), cnd_t (b := !decide (s = [])) (by simp [hne])]
        simp only [chk_p z0]
        by_cases m : chr s 0 = 45
        · have hR : parseR s = numR s := by simp only [parseR, if_neg h0, if_neg q, if_pos (Or.inl m : chr s 0 = 45 ∨ isDigit (chr s 0) = true)]
          rw [cnd_p (p := chr s 0 = 45) m, chk_t (by simp only [Bool.and_eq_true, decide_eq_true_eq]; exact ⟨⟨trivial, by omega⟩, h1⟩), hR]
          rfl
        · rw [cnd_n (p := chr s 0 = 45) m]
          by_cases d : isDigit (chr s 0) = true
          · have hR : parseR s = numR s := by simp only [parseR, if_neg h0, if_neg q, if_pos (Or.inr d : chr s 0 = 45 ∨ isDigit (chr s 0) = true)]
            have dd := (isDigit_iff _).1 d
            rw [cnd_p (p := chr s 0 ≥ 48) dd.1, cnd_p (p := chr s 0 ≤ 57) dd.2, chk_t (by simp only [Bool.and_eq_true, decide_eq_true_eq]; exact ⟨⟨trivial, by omega⟩, h1⟩), hR]
            rfl
          · have hR : parseR s = ⟨0, 0, [], 0, 4, 0, false⟩ := by simp only [parseR, if_neg h0, if_neg q, if_neg (show ¬ (chr s 0 = 45 ∨ isDigit (chr s 0) = true) by rintro (h | h); exact m h; exact d h)]
            have dd : ¬ (48 ≤ chr s 0 ∧ chr s 0 ≤ 57) := fun h => d ((isDigit_iff _).2 h)
            simp only [hR, failN, failE, if_pos hp]
            by_cases g : chr s 0 ≥ 48
            · rw [cnd_p (p := chr s 0 ≥ 48) g, cnd_n (p := chr s 0 ≤ 57) (fun h => dd ⟨g, h⟩)]
              rfl
            · rw [cnd_n (p := chr s 0 ≥ 48) g]
              rfl
  · simp [Tr.val_no] at h

theorem ok18 (W0 : World) : EKOk Tryd.prog W0 18 (.pure S17) := by
  refine pure_of (tyOk 0 [(46, .pure S46), (47, .pure S47), (48, .pure S48)]) (look_ok (all_cons (ok46 W0) (all_cons (ok47 W0) (all_cons (ok48 W0) all_nil)))) mixed fn18 (lpsOk_no _ _) fun args r h => ?_
  unfold S17 at h
  split at h
  · rename_i s
    refine (run18 0 s).trans ?_
    rw [← h]
    simp only [Tr.val_chk, chk_some, decide_eq_true_eq] at h
    obtain ⟨h1, _⟩ := h
    simp only [Tr.val_ok, Tr.val_cnd, Tr.val_chk, chr_fold]
    rw [chk_p (p := s.length ≤ big) h1]
    by_cases h0 : s.length = 0
    · have he : s = [] := List.eq_nil_of_length_eq_zero h0
      subst he
      rw [cnd_p rfl]
      rfl
    · have z0 : Int.toNat 0 < s.length := by show 0 < s.length; omega
      have hne : ¬ s = [] := by rintro rfl; simp at h0
      have hb : (decide (1 ≤ s.length) && decide (s.length ≤ big)) = true := by simp only [Bool.and_eq_true, decide_eq_true_eq]; exact ⟨by omega, h1⟩
      rw [cnd_n hne]
      simp only [chk_p z0]
      by_cases q : chr s 0 = 34
      · have hR : parseR s = textR s := by simp only [parseR, if_neg h0, if_pos q]
        rw [cnd_p (p := chr s 0 = 34) q, chk_t hb, hR]
        rfl
      · rw [cnd_n (p := chr s 0 = 34) q]
        by_cases m : chr s 0 = 45
        · have hR : parseR s = numR s := by simp only [parseR, if_neg h0, if_neg q, if_pos (Or.inl m : chr s 0 = 45 ∨ isDigit (chr s 0) = true)]
          rw [cnd_p (p := chr s 0 = 45) m, chk_t hb, hR]
          rfl
        · rw [cnd_n (p := chr s 0 = 45) m]
          by_cases d : isDigit (chr s 0) = true
          · have hR : parseR s = numR s := by simp only [parseR, if_neg h0, if_neg q, if_pos (Or.inr d : chr s 0 = 45 ∨ isDigit (chr s 0) = true)]
            rw [cnd_t d, chk_t hb, hR]
            rfl
          · have hR : parseR s = ⟨0, 0, [], 0, 4, 0, false⟩ := by simp only [parseR, if_neg h0, if_neg q, if_neg (show ¬ (chr s 0 = 45 ∨ isDigit (chr s 0) = true) by rintro (h | h); exact m h; exact d h)]
            rw [cnd_f (by simpa using d), hR]
            rfl
  · simp [Tr.val_no] at h
end Go.PS
end
