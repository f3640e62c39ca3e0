/- A part of the proof of the claim (the pure semantics PS and the contracts of the functions over it). -/
import Derived.Test.YtihpkebhgkfiaaaDoorVaB
import Derived.Test.YtihpkebhgkfiaaaDoorRows
import Derived.Test.YtihpkebhgkfiaaaDoorTie
import Derived.ProofKit
import Derived.OpenShut
import Derived.LaidMore
import Derived.Lay
import Derived.Lib.LaidU8
import Derived.Lib.LaidTab
import Derived.ChangeMaps
import Derived.ChangeSame
import Derived.ChangeVars
import Derived.JoinedOf
import Derived.RowKit
import Derived.RowKitTokens
import Derived.LaidLaws
import Derived.LaidHandle
import Derived.SizedLaws
import Derived.SliceStrings
import Derived.SevenTiedAt
import Derived.Stop.Joined
import Derived.Stop.LaidErr
set_option linter.all false
section
namespace Go.PS
open Go.Proofs
/-- value.Check, of numbers -/
def S21n : List PV → Tr PV
  | [.d (.agg [.int .i64 k, .int .i64 _, .str s])] => .chk (decide (k = 1)) (.cnd (decide (s = [])) (.ok (.d (.int .i64 0))) (.ok (.d (.int .i64 2))))
  | _ => .no
/-- value.Text, of numbers -/
def S20n : List PV → Tr PV
  | [.d (.agg [.int .i64 k, .int .i64 n, .str s])] => .chk (decide (k = 1) && decide (-9223372036854775808 ≤ n) && decide (n ≤ 9223372036854775807)) (.cnd (decide (s = []))
      (.ok (.tup [.d (.str (Lib.itoa n)), .d (.int .i64 0)])) (.ok (.tup [.d (.str []), .d (.int .i64 2)])))
  | _ => .no
def S4 : List PV → Tr PV
  | [.d (.str _)] => .ok (.d (.bool true))
  | _ => .no
def S16 : List PV → Tr PV
  | [] => .ok (.d (.bool true))
  | _ => .no
end Go.PS
end

section
namespace Go.PS
open Go.Proofs
set_option maxRecDepth 100000
/-! fasti value.Check -/
theorem fn21 : FnOk Tryd.prog 21 27 [.tmp 2] (body Tryd.f21) := ⟨Tryd.f21, Tryd.func21, bodySome _ (by kernel_rfl), by kernel_rfl, by kernel_rfl, by kernel_rfl, by kernel_rfl⟩
theorem run21 (F : Nat) (k n : Int) (s : List UInt8) : runP (ctx F []) noL 27 [.tmp 2] (body Tryd.f21) [.d (.agg [.int .i64 k, .int .i64 n, .str s])] =
    Tr.val
      (.cnd (decide (k = 1))
        (.cnd (decide (s = ([] : List UInt8)))
          (.ok (PV.d (DV.int IntKind.i64 (0))))
          (.ok (PV.d (DV.int IntKind.i64 (2)))))
        (.cnd (decide (k = 2))
          (.cnd (decide (n = 0))
            (.cnd (decide ((↑s.length : Int) ≤ 40))
              .no
              (.ok (PV.d (DV.int IntKind.i64 (2)))))
            (.ok (PV.d (DV.int IntKind.i64 (2)))))
          (.ok (PV.d (DV.int IntKind.i64 (2)))))) := by kernel_rfl
/-! fasti value.Text -/
theorem fn20 : FnOk Tryd.prog 20 21 [.tmp 2, .tmp 3] (body Tryd.f20) := ⟨Tryd.f20, Tryd.func20, bodySome _ (by kernel_rfl), by kernel_rfl, by kernel_rfl, by kernel_rfl, by kernel_rfl⟩
theorem run20 (F : Nat) (k n : Int) (s : List UInt8) : runP (ctx F [(21, .pure S21n), (49, .pure S49)]) noL 21 [.tmp 2, .tmp 3] (body Tryd.f20) [.d (.agg [.int .i64 k, .int .i64 n, .str s])] =
    Tr.val
      (.chk (decide (k = 1))
      (.cnd (decide (s = []))
        (.chk (decide (k = 1))
        (.chk (decide (-9223372036854775808 ≤ n) && decide (n ≤ 9223372036854775807))
        (.ok (PV.tup [PV.d (DV.str (Lib.itoa n)), PV.d (DV.int IntKind.i64 (0))]))))
        (.ok (PV.tup [PV.d (DV.str ([] : List UInt8)), PV.d (DV.int IntKind.i64 (2))])))) := by kernel_rfl
/-! fasti fastilaw01.lives -/
theorem fn16 : FnOk Tryd.prog 16 67 [.tmp 0] (body Tryd.f16) := ⟨Tryd.f16, Tryd.func16, bodySome _ (by kernel_rfl), by kernel_rfl, by kernel_rfl, by kernel_rfl, by kernel_rfl⟩
theorem run16 (F : Nat)  : runP (ctx F [(17, .pure S17), (20, .pure S20n)]) noL 67 [.tmp 0] (body Tryd.f16) [] =
    Tr.val
      (.ok (PV.d (DV.bool true))) := by kernel_rfl
/-! fasti fastilaw01.ValueReads -/
theorem fn4 : FnOk Tryd.prog 4 41 [.tmp 2] (body Tryd.f4) := ⟨Tryd.f4, Tryd.func4, bodySome _ (by kernel_rfl), by kernel_rfl, by kernel_rfl, by kernel_rfl, by kernel_rfl⟩
theorem run4 (F : Nat) (s : List UInt8) : runP (ctx F [(16, .pure S16), (17, .pure S17), (18, .pure S17)]) noL 41 [.tmp 2] (body Tryd.f4) [.d (.str s)] =
    Tr.val
      (.cnd (decide ((↑s.length : Int) > 5000))
        (.ok (PV.d (DV.bool true)))
        (.chk (decide (s.length ≤ big))
        (.chk (decide (s.length ≤ big))
        (.cnd (decide ((parseR s).kind = (parseR s).kind) &&
        (decide ((parseR s).n = (parseR s).n) && (decide ((parseR s).txt = (parseR s).txt) && true)))
          (.cnd (decide ((parseR s).pos = (parseR s).pos))
            (.cnd (decide ((parseR s).err = (parseR s).err))
              (.ok (PV.d (DV.bool true)))
              (.ok (PV.d (DV.bool false))))
            (.ok (PV.d (DV.bool false))))
          (.ok (PV.d (DV.bool false))))))) := by kernel_rfl
end Go.PS
end

section
namespace Go.PS
open Go.Proofs

theorem ok21n (W0 : World) : EKOk Tryd.prog W0 21 (.pure S21n) := by
  refine pure_of (tyOk 0 []) (look_ok all_nil) mixed fn21 (lpsOk_no _ _) fun args r h => ?_
  unfold S21n at h
  split at h
  · rename_i k n s
    refine (run21 0 k n s).trans ?_
    rw [← h]
    simp only [Tr.val_chk, chk_some, decide_eq_true_eq] at h
    obtain ⟨h1, _⟩ := h
    simp only [Tr.val_ok, Tr.val_cnd, Tr.val_chk]
    rw [chk_p (p := k = 1) h1, cnd_p (p := k = 1) h1]
  · simp [Tr.val_no] at h

theorem ok20n (W0 : World) (hW : Laid W0) : EKOk Tryd.prog W0 20 (.pure S20n) := by
  refine pure_of (tyOk 0 [(21, .pure S21n), (49, .pure S49)]) (look_ok (all_cons (ok21n W0) (all_cons (ok49 hW) all_nil))) mixed fn20 (lpsOk_no _ _) fun args r h => ?_
  unfold S20n at h
  split at h
  · rename_i k n s
    refine (run20 0 k n s).trans ?_
    rw [← h]
    simp only [Tr.val_chk, chk_some, Bool.and_eq_true, decide_eq_true_eq] at h
    obtain ⟨⟨⟨h1, h2⟩, h3⟩, _⟩ := h
    simp only [Tr.val_ok, Tr.val_cnd, Tr.val_chk]
    rw [chk_t (b := decide (k = 1) && decide (-9223372036854775808 ≤ n) && decide (n ≤ 9223372036854775807)) (by simp [h1, h2, h3])]
    simp only [chk_p h1]
    rw [chk_t (b := decide (-9223372036854775808 ≤ n) && decide (n ≤ 9223372036854775807)) (by simp [h2, h3])]
  · simp [Tr.val_no] at h

theorem ok16 (W0 : World) (hW : Laid W0) : EKOk Tryd.prog W0 16 (.pure S16) := by
  refine pure_of (tyOk 0 [(17, .pure S17), (20, .pure S20n)]) (look_ok (all_cons (ok17 W0 hW) (all_cons (ok20n W0 hW) all_nil))) mixed fn16 (lpsOk_no _ _) fun args r h => ?_
  unfold S16 at h
  split at h
  · exact (run16 0).trans h
  · simp [Tr.val_no] at h

theorem ok4 (W0 : World) (hW : Laid W0) : EKOk Tryd.prog W0 4 (.pure S4) := by
  refine pure_of (tyOk 0 [(16, .pure S16), (17, .pure S17), (18, .pure S17)]) (look_ok (all_cons (ok16 W0 hW) (all_cons (ok17 W0 hW) (all_cons (ok18 W0) all_nil)))) mixed fn4 (lpsOk_no _ _) fun args r h => ?_
  unfold S4 at h
  split at h
  · rename_i s
    refine (run4 0 s).trans ?_
    rw [← h]
    simp only [Tr.val_ok, Tr.val_cnd, Tr.val_chk]
    by_cases hl : (s.length : Int) > 5000
    · rw [cnd_p hl]
    · have hb : s.length ≤ big := by unfold big; omega
      rw [cnd_n hl]
      simp [hb]
  · simp [Tr.val_no] at h
end Go.PS
end

section
set_option maxRecDepth 100000
namespace Go.Proofs.YtihpkebhgkfiaaaDoor
open Go.PS Go.Shelf Go.Lib
open Go.ChangeShapes Go.WideShapes Go.ChangeAt Go.RowKit
open Go.ChangeMaps (open_string shut_string)

theorem own : ownKnob Tryd.prog.godebug = none := by kernel_rfl

/-- the list of package-level variables, the same in every row -/
noncomputable abbrev laid : List (String × DataW Unit) := Rows.valueReadsRow.laid

theorem laid_is : laid = [("math/bits.deBruijn32tab", Rows.laid_math_bits_deBruijn32tab), ("math/bits.deBruijn64tab", Rows.laid_math_bits_deBruijn64tab), ("internal/strconv.uint64pow10", Lib.tabData .u64 Lib.pow10Tab),
  ("unicode/utf8.acceptRanges", Lib.acceptData), ("strconv.ErrRange", Rows.laid_strconv_ErrRange), ("strconv.ErrSyntax", Rows.laid_strconv_ErrSyntax), ("unicode/utf8.first", Lib.firstData)] := by kernel_rfl

theorem star : "*" ++ "errors.errorString" = "*errors.errorString" := by decide
theorem row158 (u : TypeId) (h : Tryd.prog.typeName? 3 u = some "*errors.errorString") : u = 158 :=
  typeName_ptr_named (nm := "errors.errorString") (by rw [star]; kernel_rfl) (by kernel_rfl) (by decide) u (by rw [star]; exact h)

theorem laid_world {W : World} (h : laidMetH Tryd.prog laid W) : Laid W := by
  rw [MakeChecks.laidMetH_plain _ _ _ (by kernel_rfl)] at h
  rw [laid_is] at h
  have h2 := h.tail.tail
  obtain ⟨a1, t1, hv1, hc1, _, _⟩ := laid_sentinel (g := 4) h2.tail.tail (by kernel_rfl) (by kernel_rfl) Tryd.underlying101 row158 Tryd.underlying158 Tryd.underlying160 rfl rfl Tryd.underlying9 (by kernel_rfl) (by kernel_rfl)
  obtain ⟨a0, t0, hv0, hc0, _, _⟩ := laid_sentinel (g := 3) h2.tail.tail.tail (by kernel_rfl) (by kernel_rfl) Tryd.underlying101 row158 Tryd.underlying158 Tryd.underlying160 rfl rfl Tryd.underlying9 (by kernel_rfl) (by kernel_rfl)
  refine ⟨?_, ?_, ?_, ?_⟩
  · exact utf8Tabs_of_reads (ρ := Tryd.lays260_ren) Tryd.lays260 ⟨by kernel_rfl, by kernel_rfl, by kernel_rfl, by kernel_rfl, by kernel_rfl, by kernel_rfl, by kernel_rfl⟩ (Lib.laidMet.reads h2 (.tail _ (.tail _ (.tail _ (.tail _ (.head _)))))) (Lib.laidMet.reads h2 (.tail _ (.head _)))
  · exact tabIs_of_head (g := 5) (by kernel_rfl) (by kernel_rfl) Tryd.underlying153 Tryd.underlying138 (by kernel_rfl) (by kernel_rfl) h2
  · exact ⟨_, (World.var?_cell (by kernel_rfl) hv0 0).trans rfl, .inr ⟨_, _, rfl⟩⟩
  · exact ⟨_, (World.var?_cell (by kernel_rfl) hv1 0).trans rfl, .inr ⟨_, _, rfl⟩⟩

theorem laid_met (os : Os) (args : Array Value) : laidMetH Tryd.prog laid ((World.laidAll Tryd.prog os laid).forCall (fun _ _ => 0) ⟨#[], args, []⟩).memory := by
  rw [MakeChecks.laidMetH_plain _ _ _ (by kernel_rfl)]; exact laidMet_laidAll _ (by kernel_rfl) (by kernel_rfl)

/-- no own block -/
def bare : Own := fun _ => none
theorem gl_bare (W : World) : Gl W bare W := ⟨Nat.le_refl _, fun _ _ => ⟨rfl, rfl⟩, fun _ h => absurd rfl h⟩

/-- a law on one string that PS proves true returns true in the model and leaves what was there. -/
theorem law_one {W : World} {f : Nat} {S : List PV → Tr PV} (h : EKOk Tryd.prog W f (.pure S)) (s : ByteArray) (hs : s.size ≤ maxLen) (hS : (S [.d (.str s.data.toList)]).val = some (.d (.bool true))) :
    Calls Tryd.prog f #[.string s] W fun e W' => e = .returned (.bool true) ∧ Below W.heap.size W W' := by
  have hx : PEncL bare W [] [.d (.str s.data.toList)] [.string s] := by
    have h1 : PEnc bare W [] (.d (.str s.data.toList)) (.string ⟨s.data.toList.toArray⟩) := .d (.str _ (by
      rw [← Lib.size_eq]; unfold maxLen at hs; omega))
    have e : (⟨s.data.toList.toArray⟩ : ByteArray) = s := by cases s; simp
    rw [e] at h1
    exact .cons h1 .nil
  refine (SoundP.calls h [.d (.str s.data.toList)] _ hS bare [] W [.string s] (gl_bare W) (fun _ _ _ h => by cases h) hx).mono ?_
  rintro e W' ⟨x, o', rfl, hg, hx, _⟩
  refine ⟨?_, hg.os, hg.tape, hg.output, hg.size, fun k hk => (hg.same k hk).1⟩
  rw [hx.bool_inv]

end Go.Proofs.YtihpkebhgkfiaaaDoor
end
