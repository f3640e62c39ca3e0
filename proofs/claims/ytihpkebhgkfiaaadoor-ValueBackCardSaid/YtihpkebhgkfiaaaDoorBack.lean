/- PROVED: fastilaw01.ValueBack returns true for every value and every string (value.Parse reads what value.Text writes of a right value; of what it reads value.Text writes just that text; where it reads nothing it tells no value, and a place in the text), each argument reads as it did, and nothing that was there is changed.
   CONDITIONS: only the row's own: the listed package-level variables hold what the program's text lays into them (the card ties them to that text). -/
import Derived.Test.YtihpkebhgkfiaaaDoorBackA
import Derived.Test.YtihpkebhgkfiaaaDoorVaC
import Derived.Test.YtihpkebhgkfiaaaDoorCards
set_option linter.all false
section
namespace Go.PS
open Go.Proofs
def S5 : List PV → Tr PV
  | [.d (.agg [.int .i64 _, .int .i64 n, .str _]), .d (.str _)] => .chk (decide (-9223372036854775808 ≤ n) && decide (n ≤ 9223372036854775807)) (.ok (.d (.bool true)))
  | _ => .no
end Go.PS
end

section
namespace Go.PS
open Go.Proofs
set_option maxRecDepth 100000
/-! fasti fastilaw01.ValueBack -/
theorem fn5 : FnOk Tryd.prog 5 100 [.tmp 4] (body Tryd.f5) := ⟨Tryd.f5, Tryd.func5, bodySome _ (by kernel_rfl), by kernel_rfl, by kernel_rfl, by kernel_rfl, by kernel_rfl⟩
theorem run5 (F : Nat) (k n : Int) (s t : List UInt8) : runP (ctx F [(16, .pure S16), (17, .pure S17), (19, .pure S19), (20, .pure S20u), (21, .pure S21u)]) noL 100 [.tmp 4] (body Tryd.f5) [.d (.agg [.int .i64 k, .int .i64 n, .str s]), .d (.str t)] =
    Tr.val
      (.cnd (!decide ((↑s.length : Int) ≤ 5000))
        (.ok (PV.d (DV.bool true)))
        (.cnd (decide ((↑t.length : Int) > 5000))
          (.ok (PV.d (DV.bool true)))
          (.chk (decide (s.length ≤ big) && decide (-9223372036854775808 ≤ n) && decide (n ≤ 9223372036854775807))
          (.cnd (decide (rightE k n s = 0))
            (.chk (decide ((textV k n s).length ≤ big))
            (.cnd (!(decide ((parseR (textV k n s)).kind = k) &&
          (decide ((parseR (textV k n s)).n = n) && (decide ((parseR (textV k n s)).txt = s) && true))))
              (.ok (PV.d (DV.bool false)))
              (.cnd (!decide ((parseR (textV k n s)).pos = (↑(textV k n s).length : Int)))
                (.ok (PV.d (DV.bool false)))
                (.cnd (!decide ((parseR (textV k n s)).err = 0))
                  (.ok (PV.d (DV.bool false)))
                  (.chk (decide (t.length ≤ big))
                  (.cnd (!decide ((parseR t).err = 0))
                    (.cnd (decide ((parseR t).kind = 0) && (decide ((parseR t).n = 0) && (decide ((parseR t).txt = []) && true)))
                      (.cnd (decide ((parseR t).pos ≥ 0))
                        (.cnd (decide ((parseR t).pos ≤ (↑t.length : Int)))
                          (.ok (PV.d (DV.bool true)))
                          (.ok (PV.d (DV.bool false))))
                        (.ok (PV.d (DV.bool false))))
                      (.ok (PV.d (DV.bool false))))
                    (.chk (decide ((parseR t).txt.length ≤ big) && decide (-9223372036854775808 ≤ (parseR t).n) &&
        decide ((parseR t).n ≤ 9223372036854775807))
                    (.cnd (decide (textV (parseR t).kind (parseR t).n (parseR t).txt = t))
                      (.cnd (decide ((parseR t).pos = (↑t.length : Int)))
                        (.cnd (decide (rightE (parseR t).kind (parseR t).n (parseR t).txt = 0))
                          (.chk (decide ((parseR t).txt.length ≤ big))
                          (.cnd (decide (rightE (parseR t).kind (parseR t).n (parseR t).txt = 0))
                            (.ok (PV.d (DV.bool true)))
                            (.ok (PV.d (DV.bool false)))))
                          (.ok (PV.d (DV.bool false))))
                        (.ok (PV.d (DV.bool false))))
                      (.ok (PV.d (DV.bool false)))))))))))
            (.chk (decide (t.length ≤ big))
            (.cnd (!decide ((parseR t).err = 0))
              (.cnd (decide ((parseR t).kind = 0) && (decide ((parseR t).n = 0) && (decide ((parseR t).txt = []) && true)))
                (.cnd (decide ((parseR t).pos ≥ 0))
                  (.cnd (decide ((parseR t).pos ≤ (↑t.length : Int)))
                    (.ok (PV.d (DV.bool true)))
                    (.ok (PV.d (DV.bool false))))
                  (.ok (PV.d (DV.bool false))))
                (.ok (PV.d (DV.bool false))))
              (.chk (decide ((parseR t).txt.length ≤ big) && decide (-9223372036854775808 ≤ (parseR t).n) &&
        decide ((parseR t).n ≤ 9223372036854775807))
              (.cnd (decide (textV (parseR t).kind (parseR t).n (parseR t).txt = t))
                (.cnd (decide ((parseR t).pos = (↑t.length : Int)))
                  (.cnd (decide (rightE (parseR t).kind (parseR t).n (parseR t).txt = 0))
                    (.chk (decide ((parseR t).txt.length ≤ big))
                    (.cnd (decide (rightE (parseR t).kind (parseR t).n (parseR t).txt = 0))
                      (.ok (PV.d (DV.bool true)))
                      (.ok (PV.d (DV.bool false)))))
                    (.ok (PV.d (DV.bool false))))
                  (.ok (PV.d (DV.bool false))))
                (.ok (PV.d (DV.bool false))))))))))) := by kernel_rfl
end Go.PS
end

section
namespace Go.PS
open Go.Proofs
theorem textV_len (k n : Int) (s : List UInt8) (h0 : -9223372036854775808 ≤ n) (h1 : n ≤ 9223372036854775807) (hs : s.length ≤ 5000) : (textV k n s).length ≤ 30000 := by
  have hi := itoa_len20 n (by omega)
  have hf := flatB_len s
  unfold textV
  split
  · rename_i hr
    split
    · omega
    · rename_i hk
      have ho : okR s = true := by unfold rightR at hr; simp [hk] at hr; exact hr.2
      rw [← quote_eq s (by unfold big; omega) ho]
      unfold quoteB; simp; omega
  · simp
theorem rightE_iff (k n : Int) (s : List UInt8) : rightE k n s = 0 ↔ rightR k n s = true := by unfold rightE; split <;> simp_all
theorem ok5 (W0 : World) (hW : Laid W0) : EKOk Tryd.prog W0 5 (.pure S5) := by
  refine pure_of (tyOk 0 [(16, .pure S16), (17, .pure S17), (19, .pure S19), (20, .pure S20u), (21, .pure S21u)])
    (look_ok (all_cons (ok16 W0 hW) (all_cons (ok17 W0 hW) (all_cons (ok19 W0) (all_cons (ok20u W0 hW) (all_cons (ok21u W0 hW) all_nil))))))
    mixed fn5 (lpsOk_no _ _) fun args r h => ?_
  unfold S5 at h
  split at h
  · rename_i k n s t
    refine (run5 0 k n s t).trans ?_
    rw [← h]
    simp only [Tr.val_chk, chk_some, Bool.and_eq_true, decide_eq_true_eq] at h
    obtain ⟨h1, h2⟩ := h.1
    clear h
    simp only [Tr.val_ok, Tr.val_cnd, Tr.val_chk]
    rw [chk_t (b := decide (-9223372036854775808 ≤ n) && decide (n ≤ 9223372036854775807)) (by simp [h1, h2])]
    by_cases c1 : (s.length : Int) ≤ 5000
    · rw [cnd_f (b := !decide ((s.length : Int) ≤ 5000)) (by simp [c1])]
      by_cases c2 : (t.length : Int) > 5000
      · rw [cnd_p c2]
      · have b1 : s.length ≤ big := by unfold big; omega
        have b2 : t.length ≤ big := by unfold big; omega
        have b3 : (decide (s.length ≤ big) && decide (-9223372036854775808 ≤ n) && decide (n ≤ 9223372036854775807)) = true := by simp [b1, h1, h2]
        have tl := textV_len k n s h1 h2 (by omega)
        have b4 : (textV k n s).length ≤ big := by unfold big; omega
        rw [cnd_n c2]
        simp only [chk_t b3, chk_p b4, chk_p b2]
        have pT := parse_text k n s
        have pB := text_parse t b2
        have pE := parse_err t
        have r1 := rightE_iff k n s
        have r2 := rightE_iff (parseR t).kind (parseR t).n (parseR t).txt
        have tail : PS.cnd (!decide ((parseR t).err = 0))
            (PS.cnd (decide ((parseR t).kind = 0) && (decide ((parseR t).n = 0) && (decide ((parseR t).txt = []) && true)))
              (PS.cnd (decide ((parseR t).pos ≥ 0)) (PS.cnd (decide ((parseR t).pos ≤ (t.length : Int))) (some (PV.d (DV.bool true))) (some (PV.d (DV.bool false)))) (some (PV.d (DV.bool false))))
              (some (PV.d (DV.bool false))))
            (PS.chk (decide ((parseR t).txt.length ≤ big) && decide (-9223372036854775808 ≤ (parseR t).n) && decide ((parseR t).n ≤ 9223372036854775807))
              (PS.cnd (decide (textV (parseR t).kind (parseR t).n (parseR t).txt = t))
                (PS.cnd (decide ((parseR t).pos = (t.length : Int)))
                  (PS.cnd (decide (rightE (parseR t).kind (parseR t).n (parseR t).txt = 0))
                    (PS.chk (decide ((parseR t).txt.length ≤ big))
                      (PS.cnd (decide (rightE (parseR t).kind (parseR t).n (parseR t).txt = 0)) (some (PV.d (DV.bool true))) (some (PV.d (DV.bool false)))))
                    (some (PV.d (DV.bool false))))
                  (some (PV.d (DV.bool false))))
                (some (PV.d (DV.bool false))))) = some (PV.d (DV.bool true)) := by
          by_cases e : (parseR t).err = 0
          · obtain ⟨g1, g2, g3, g4, g5, g6⟩ := pB e
            have b5 : (parseR t).txt.length ≤ big := by unfold big; omega
            rw [cnd_f (by simp [e]), chk_t (by simp [b5, g4, g5]), cnd_p g2, cnd_p g3, cnd_p (r2.2 g1), chk_p b5, cnd_p (r2.2 g1)]
          · obtain ⟨g1, g2, g3, g4, g5⟩ := pE e
            rw [cnd_t (by simp [e]), cnd_t (by simp [g1, g2, g3]), cnd_p g4, cnd_p g5]
        rw [tail]
        by_cases e : rightE k n s = 0
        · obtain ⟨g1, g2, g3, g4, g5⟩ := pT (r1.1 e) h1 h2 b1
          rw [cnd_p e, cnd_f (by simp [g1, g2, g3]), cnd_f (by simp [g4]), cnd_f (by simp [g5])]
        · rw [cnd_n e]
    · rw [cnd_t (b := !decide ((s.length : Int) ≤ 5000)) (by simpa using c1)]
  · simp [Tr.val_no] at h
end Go.PS
end

section
set_option maxRecDepth 100000
namespace Go.Proofs.YtihpkebhgkfiaaaDoor
open Go.PS Go.Shelf Go.Lib
open Go.ChangeShapes Go.WideShapes Go.ChangeAt Go.RowKit
open Go.ChangeMaps (open_string shut_string)

theorem cells33 : Tryd.prog.cellsOf 33 = 3 := by kernel_rfl
theorem cells31 : Tryd.prog.cellsOf 31 = 1 := by kernel_rfl
theorem cells3 : Tryd.prog.cellsOf 3 = 1 := by kernel_rfl
theorem cells9 : Tryd.prog.cellsOf 9 = 1 := by kernel_rfl

section
variable {H : Type} {enc : TypeId × Value → H} {W : World} {base : Nat} {sp : Nat → Bool} {held : Bool}
/-- an argument of the type api.Value, opened -/
theorem open_value {r : Reach} {b0 : Nat} {v : Value} {d : DataW H} {ps : List MemPlace} (hval : Value.okWide Tryd.prog W r b0 33 v) (hd : DataW.Trod enc Tryd.prog W base sp held 33 v d ps) :
    ∃ (k n : Int) (s : ByteArray), v = .agg #[.int .i64 k, .int .i64 n, .string s] ∧ d = .agg [.lit (.int .i64 k), .lit (.int .i64 n), .lit (.string s.data.toList)] ∧ ps = [] ∧ (Lit.int .i64 k).wf = true ∧ (Lit.int .i64 n).wf = true ∧ s.size ≤ maxLen := by
  obtain ⟨cs, rfl, hc⟩ := okWide_struct Tryd.underlying33 hval
  rw [cells33] at hc
  obtain ⟨l⟩ := cs
  match l, hc with
  | [c0, c1, c2], _ =>
  obtain ⟨fuel, hf⟩ := hd
  obtain ⟨xs, m, _, ex, _, hl, hel⟩ := DataW.trod_struct Tryd.underlying33 hf
  have hl3 : xs.length = 3 := hl
  match xs, hl3 with
  | [x0, x1, x2], _ =>
  have h0 := hel 0 _ rfl
  have h1 := hel 1 _ rfl
  have h2 := hel 2 _ rfl
  simp only [Value.cells] at h0 h1 h2
  obtain ⟨k, e0, y0, wk⟩ := DataW.trod_int Tryd.underlying31 h0
  obtain ⟨n, e1, y1, wn⟩ := DataW.trod_int Tryd.underlying3 h1
  obtain ⟨s, e2, y2, hs⟩ := DataW.trod_string Tryd.underlying9 h2
  simp [cells31, cells3, cells9] at e0 e1 e2
  subst e0; subst e1; subst e2; subst y0; subst y1; subst y2
  simp at ex
  exact ⟨k, n, s, rfl, ex.1, ex.2, wk, wn, hs⟩
theorem shut_value {k n : Int} {s : ByteArray} (wk : (Lit.int .i64 k).wf = true) (wn : (Lit.int .i64 n).wf = true) (hs : s.size ≤ maxLen) :
    DataW.Trod enc Tryd.prog W base sp held 33 (.agg #[.int .i64 k, .int .i64 n, .string s]) (.agg [.lit (.int .i64 k), .lit (.int .i64 n), .lit (.string s.data.toList)]) [] :=
  ⟨2, by
    show DataW.trod enc Tryd.prog W base sp held (1 + 1) 33 [.int .i64 k, .int .i64 n, .string s] = _
    rw [DataW.trod_step]
    unfold DataW.trodStep
    simp only [Tryd.underlying33]
    simp [cells33, cells31, cells3, cells9, DataW.trod, Tryd.underlying31, Tryd.underlying3, Tryd.underlying9, wk, wn, hs]⟩

theorem enc_value {k n : Int} {s : ByteArray} (hs : s.size ≤ maxLen) : PEnc bare W [] (.d (.agg [.int .i64 k, .int .i64 n, .str s.data.toList])) (.agg #[.int .i64 k, .int .i64 n, .string s]) := by
  have e : (⟨s.data.toList.toArray⟩ : ByteArray) = s := by cases s; simp
  have h1 : Enc bare W (.str s.data.toList) (.string ⟨s.data.toList.toArray⟩) := .str _ (by
      rw [← Lib.size_eq]; unfold maxLen at hs; omega)
  rw [e] at h1
  exact .d (.agg _ _ (.cons (.int _ _) (.cons (.int _ _) (.cons h1 .nil))) (fun v hv => by
    simp at hv
    rcases hv with rfl | rfl | rfl <;> rfl))
/-- a law that PS proves true returns true in the model and leaves what was there. -/
theorem law_true {f : Nat} {S : List PV → Tr PV} {vs : List PV} {xs : List Value} (h : EKOk Tryd.prog W f (.pure S)) (hx : PEncL bare W [] vs xs) (hS : (S vs).val = some (.d (.bool true))) :
    Calls Tryd.prog f xs.toArray W fun e W' => e = .returned (.bool true) ∧ Below W.heap.size W W' := by
  refine (SoundP.calls h vs _ hS bare [] W xs (gl_bare W) (fun _ _ _ h => by cases h) hx).mono ?_
  rintro e W' ⟨x, o', rfl, hg, hx, _⟩
  refine ⟨?_, hg.os, hg.tape, hg.output, hg.size, fun k hk => (hg.same k hk).1⟩
  rw [hx.bool_inv]
end

end Go.Proofs.YtihpkebhgkfiaaaDoor
end

section
set_option maxRecDepth 100000
namespace Go.Proofs.YtihpkebhgkfiaaaDoor
open Go.PS Go.Shelf Go.Lib
open Go.ChangeShapes Go.WideShapes Go.ChangeAt Go.RowKit
open Go.ChangeMaps (open_string shut_string)

theorem enc_str {W : World} {s : ByteArray} (hs : s.size ≤ maxLen) : PEnc bare W [] (.d (.str s.data.toList)) (.string s) := by
  have h1 : PEnc bare W [] (.d (.str s.data.toList)) (.string ⟨s.data.toList.toArray⟩) := .d (.str _ (by
    rw [← Lib.size_eq]; unfold maxLen at hs; omega))
  have e : (⟨s.data.toList.toArray⟩ : ByteArray) = s := by cases s; simp
  rwa [e] at h1
theorem s5_true {k n : Int} {s t : List UInt8} (wn : (Lit.int .i64 n).wf = true) : (S5 [.d (.agg [.int .i64 k, .int .i64 n, .str s]), .d (.str t)]).val = some (.d (.bool true)) := by
  have h : (decide (IntKind.i64.min ≤ n) && decide (n ≤ IntKind.i64.max)) = true := wn
  simp only [Bool.and_eq_true, decide_eq_true_eq] at h
  have e1 : IntKind.i64.min = -9223372036854775808 := by rfl
  have e2 : IntKind.i64.max = 9223372036854775807 := by rfl
  rw [e1, e2] at h
  unfold S5
  simp only [Tr.val_chk, Tr.val_ok]
  rw [chk_t (by simp only [Bool.and_eq_true, decide_eq_true_eq]; omega)]
theorem back_lifted (os : Os) (started : os.Started) (H : Type) (enc : TypeId × Value → H) :
    ReturnsInHanded {} Tryd.checked os 5 .any (fun w args => (Rows.valueBackSpec.pre enc Tryd.prog Tryd.f5 Rows.valueBackRow.domain false w args ∧ laidMetH Tryd.prog Rows.valueBackRow.laid w) ∧ sizedMet enc Tryd.prog Tryd.f5 (OpenSpec.ofChange Rows.valueBackSpec) false w args)
      (Rows.valueBackSpec.post enc Tryd.prog Tryd.f5 false true false false) := by
  refine returnsInHanded_of_change_and (C := Tryd.checked) (X := fun w _ => laidMetH Tryd.prog Rows.valueBackRow.laid w) (fun _ _ _ hh h => h.of_heap hh) own started (by kernel_rfl) Tryd.func5
    (ChangeSpec.witness_at (enc := enc) (C := Tryd.checked) (os := os) (X := fun w _ => laidMetH Tryd.prog Rows.valueBackRow.laid w) false (World.laidAll Tryd.prog os laid) #[.agg #[.int .i64 0, .int .i64 0, .string ⟨#[]⟩], .string ⟨#[]⟩] 8 (World.laidAll_os _ _ _) (by kernel_rfl) (by kernel_rfl) (by kernel_rfl) (by kernel_rfl) (by kernel_rfl) (laid_met os _)) ?_
  intro W base args ds gs before hval0 hW _ _ hL _
  have hval : ∀ (j : Nat) t v, Tryd.f5.params[j]? = some t → args[j]? = some v → Value.okWide Tryd.prog W .any base t v := hval0
  have hW' := hW
  obtain ⟨p, q, hA0, hV0, rfl, _, _⟩ := hW
  have hA : DataW.TrodAll enc Tryd.prog W 0 (fun _ => true) true Tryd.f5.params.toList args.toList ds p := hA0
  rw [Tryd.params5] at hA hval
  obtain ⟨v0, v1, d0, d1, p0, p1, rfl, rfl, rfl, h0, h1⟩ := trodAll_two hA
  obtain ⟨rfl, rfl⟩ := trodVars_none hV0
  obtain ⟨k, n, s, rfl, rfl, rfl, wk, wn, ws⟩ := open_value (hval 0 33 _ rfl rfl) h0
  obtain ⟨t, rfl, rfl, rfl, wt⟩ := open_string Tryd.underlying9 (hval 1 9 _ rfl rfl) h1
  have e1 : ∀ d0 d1 : DataW H, Rows.valueBackSpec.fn H ([d0, d1] ++ []) = { results := [.lit (.bool true)], args := [d0, d1] } := fun _ _ => rfl
  refine (law_true (ok5 W (laid_world hL)) (.cons (enc_value ws) (.cons (enc_str wt) .nil)) (s5_true wn)).mono ?_
  rintro e W' ⟨rfl, bel⟩
  refine ⟨_, rfl, _, _, _, [], [], [], hW', ?_, ?_, ?_, bel.frame _, fun h => by cases h⟩
  · rw [e1]; exact trodAll_mk1 (shut_bool Tryd.underlying4 true)
  · rw [e1]; exact trodAll_mk2 (shut_value wk wn ws) (shut_string Tryd.underlying9 wt)
  · rw [e1]; rfl

theorem back_holds : Rows.ValueBackSaid :=
  OpenClaim.holds_of_wide 5 Tryd.f5 rfl rfl rfl rfl rfl rfl rfl ⟨rfl, rfl, rfl, rfl, rfl⟩ rfl rfl rfl rfl rfl (by kernel_rfl) Tryd.func5 (by kernel_rfl)
    (of_decide_eq_true (by kernel_rfl)) (by unfold Func.isWrapper; rw [if_neg (of_decide_eq_false (by kernel_rfl))]; exact ⟨rfl, rfl⟩)
    (fun os started H enc _ => back_lifted os started H enc)
end Go.Proofs.YtihpkebhgkfiaaaDoor
end

section
namespace Go.Proofs.YtihpkebhgkfiaaaDoor
open Go

theorem valueBack_card : Rows.ValueBackCardSaid :=
  Claim7.holds_tied_plain_at .later [] [.data, .data, .data, .data, .sentinel, .sentinel, .pinned] true (true, "36bbe3e7eaadf27dabe13b421857fca0247e9a5d163028c61325c415c9f7cfbc") true
    back_holds (fun _ h => by cases h) (by kernel_rfl) (fun _ h => by cases h) valueBack_row_tie rfl ⟨rfl, rfl⟩ (by kernel_rfl) rfl
    (fun f fn hf hfn => by
      obtain rfl : f = 5 := Option.some.inj ((show Tryd.prog.funcNamed "fasti/fastilaw01.ValueBack" = some 5 by kernel_rfl).symm.trans hf) |>.symm
      obtain rfl : fn = Tryd.f5 := (Option.some.inj (Tryd.func5.symm.trans hfn)).symm
      exact ⟨by kernel_rfl, fun j t ht => by
        rw [Tryd.params5] at ht
        have h9 : t = 33 ∨ t = 9 := by
          rcases j with _ | _ | j
          · left; simpa using ht.symm
          · right; simpa using ht.symm
          · simp at ht
        rcases h9 with rfl | rfl
        · exact (show Tryd.prog.wantsStandIn 33 = false by kernel_rfl)
        · exact (show Tryd.prog.wantsStandIn 9 = false by kernel_rfl)⟩)
    (by kernel_rfl)
#print axioms valueBack_card
end Go.Proofs.YtihpkebhgkfiaaaDoor
end
