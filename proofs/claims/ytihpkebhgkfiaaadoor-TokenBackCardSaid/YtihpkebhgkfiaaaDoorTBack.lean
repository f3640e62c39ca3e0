/- PROVED: fastilaw16.TokenBack returns true for every slice of tokens and every string (what Join writes of right tokens is read as them, but for their places; what is read, written again, is read as the same), each argument reads as it did, and nothing that was there is changed.
   CONDITIONS: only the row's own: the listed package-level variables hold what the program's text lays into them (the card ties them to that text). -/
import Derived.Test.YtihpkebhgkfiaaaDoorVaC
import Derived.Test.YtihpkebhgkfiaaaDoorPlacesE
import Derived.Test.YtihpkebhgkfiaaaDoorPlacesF
import Derived.Test.YtihpkebhgkfiaaaDoorBackJ
import Derived.Test.YtihpkebhgkfiaaaDoorCards
set_option linter.all false
section
set_option maxRecDepth 100000
namespace Go.Proofs.YtihpkebhgkfiaaaDoor
open Go.PS Go.Shelf Go.Lib
open Go.ChangeShapes Go.WideShapes Go.ChangeAt Go.RowKit
open Go.ChangeMaps (open_string shut_string)

theorem cells33 : Tryd.prog.cellsOf 33 = 3 := by kernel_rfl
theorem cells31 : Tryd.prog.cellsOf 31 = 1 := by kernel_rfl
theorem cells3 : Tryd.prog.cellsOf 3 = 1 := by kernel_rfl
theorem cells9 : Tryd.prog.cellsOf 9 = 1 := by kernel_rfl

section
variable {H : Type} {enc : TypeId × Value → H} {W : World} {base : Nat} {sp : Nat → Bool} {held : Bool}
/-- an argument of the type api.Value, opened -/
theorem open_value {r : Reach} {b0 : Nat} {v : Value} {d : DataW H} {ps : List MemPlace} (hval : Value.okWide Tryd.prog W r b0 33 v) (hd : DataW.Trod enc Tryd.prog W base sp held 33 v d ps) :
    ∃ (k n : Int) (s : ByteArray), v = .agg #[.int .i64 k, .int .i64 n, .string s] ∧ d = .agg [.lit (.int .i64 k), .lit (.int .i64 n), .lit (.string s.data.toList)] ∧ ps = [] ∧ (Lit.int .i64 k).wf = true ∧ (Lit.int .i64 n).wf = true ∧ s.size ≤ maxLen := by
  obtain ⟨cs, rfl, hc⟩ := okWide_struct Tryd.underlying33 hval
  rw [cells33] at hc
  obtain ⟨l⟩ := cs
  match l, hc with
  | [c0, c1, c2], _ =>
  obtain ⟨fuel, hf⟩ := hd
  obtain ⟨xs, m, _, ex, _, hl, hel⟩ := DataW.trod_struct Tryd.underlying33 hf
  have hl3 : xs.length = 3 := hl
  match xs, hl3 with
  | [x0, x1, x2], _ =>
  have h0 := hel 0 _ rfl
  have h1 := hel 1 _ rfl
  have h2 := hel 2 _ rfl
  simp only [Value.cells] at h0 h1 h2
  obtain ⟨k, e0, y0, wk⟩ := DataW.trod_int Tryd.underlying31 h0
  obtain ⟨n, e1, y1, wn⟩ := DataW.trod_int Tryd.underlying3 h1
  obtain ⟨s, e2, y2, hs⟩ := DataW.trod_string Tryd.underlying9 h2
  simp [cells31, cells3, cells9] at e0 e1 e2
  subst e0; subst e1; subst e2; subst y0; subst y1; subst y2
  simp at ex
  exact ⟨k, n, s, rfl, ex.1, ex.2, wk, wn, hs⟩
theorem shut_value {k n : Int} {s : ByteArray} (wk : (Lit.int .i64 k).wf = true) (wn : (Lit.int .i64 n).wf = true) (hs : s.size ≤ maxLen) :
    DataW.Trod enc Tryd.prog W base sp held 33 (.agg #[.int .i64 k, .int .i64 n, .string s]) (.agg [.lit (.int .i64 k), .lit (.int .i64 n), .lit (.string s.data.toList)]) [] :=
  ⟨2, by
    show DataW.trod enc Tryd.prog W base sp held (1 + 1) 33 [.int .i64 k, .int .i64 n, .string s] = _
    rw [DataW.trod_step]
    unfold DataW.trodStep
    simp only [Tryd.underlying33]
    simp [cells33, cells31, cells3, cells9, DataW.trod, Tryd.underlying31, Tryd.underlying3, Tryd.underlying9, wk, wn, hs]⟩

theorem enc_value {k n : Int} {s : ByteArray} (hs : s.size ≤ maxLen) : PEnc bare W [] (.d (.agg [.int .i64 k, .int .i64 n, .str s.data.toList])) (.agg #[.int .i64 k, .int .i64 n, .string s]) := by
  have e : (⟨s.data.toList.toArray⟩ : ByteArray) = s := by cases s; simp
  have h1 : Enc bare W (.str s.data.toList) (.string ⟨s.data.toList.toArray⟩) := .str _ (by
      rw [← Lib.size_eq]; unfold maxLen at hs; omega)
  rw [e] at h1
  exact .d (.agg _ _ (.cons (.int _ _) (.cons (.int _ _) (.cons h1 .nil))) (fun v hv => by
    simp at hv
    rcases hv with rfl | rfl | rfl <;> rfl))
/-- a law that PS proves true returns true in the model and leaves what was there. -/
theorem law_true {f : Nat} {S : List PV → Tr PV} {vs : List PV} {xs : List Value} (h : EKOk Tryd.prog W f (.pure S)) (hx : PEncL bare W [] vs xs) (hS : (S vs).val = some (.d (.bool true))) :
    Calls Tryd.prog f xs.toArray W fun e W' => e = .returned (.bool true) ∧ Below W.heap.size W W' := by
  refine (SoundP.calls h vs _ hS bare [] W xs (gl_bare W) (fun _ _ _ h => by cases h) hx).mono ?_
  rintro e W' ⟨x, o', rfl, hg, hx, _⟩
  refine ⟨?_, hg.os, hg.tape, hg.output, hg.size, fun k hk => (hg.same k hk).1⟩
  rw [hx.bool_inv]
end

end Go.Proofs.YtihpkebhgkfiaaaDoor
end

section
set_option maxRecDepth 100000
namespace Go.Proofs.YtihpkebhgkfiaaaDoor
open Go.PS Go.Shelf Go.Lib
open Go.ChangeShapes Go.WideShapes Go.ChangeAt Go.RowKit
theorem plain_toks : ∀ t, [23, 55, 53, 9, 3].contains t = true → plainT Tryd.prog [23, 55, 53, 9, 3] t = true := by
  intro t ht
  simp only [List.contains_cons, List.contains_nil, Bool.or_eq_true, beq_iff_eq, Bool.or_false] at ht
  rcases ht with rfl | rfl | rfl | rfl | rfl <;> kernel_rfl
theorem cells55 : Tryd.prog.cellsOf 55 = 4 := by kernel_rfl
theorem cells53 : Tryd.prog.cellsOf 53 = 1 := by kernel_rfl
theorem ty_int {n : Nat} {t : TypeId} {ds : List DV} (hu : Tryd.prog.underlying t = some (.int .i64)) (h : tyV Tryd.prog n t ds) : ∃ m, ds = [.int .i64 m] ∧ (Lit.int .i64 m).wf = true := by
  cases n with
  | zero => exact h.elim
  | succ n => unfold tyV at h; rw [hu] at h; exact h
theorem ty_str {n : Nat} {t : TypeId} {ds : List DV} (hu : Tryd.prog.underlying t = some .string) (h : tyV Tryd.prog n t ds) : ∃ s, ds = [.str s] ∧ s.length ≤ maxLen := by
  cases n with
  | zero => exact h.elim
  | succ n => unfold tyV at h; rw [hu] at h; exact h
theorem wf64 {n : Int} (wn : (Lit.int .i64 n).wf = true) : -9223372036854775808 ≤ n ∧ n ≤ 9223372036854775807 := by
  have h : (decide (IntKind.i64.min ≤ n) && decide (n ≤ IntKind.i64.max)) = true := wn
  simp only [Bool.and_eq_true, decide_eq_true_eq] at h
  have e1 : IntKind.i64.min = -9223372036854775808 := by rfl
  have e2 : IntKind.i64.max = 9223372036854775807 := by rfl
  rw [e1, e2] at h
  exact h
/-- a token among the arguments -/
theorem ty_tok {n : Nat} {v : DV} (h : tyV Tryd.prog n 55 v.cells) : okD v = true := by
  cases n with
  | zero => exact h.elim
  | succ n =>
    unfold tyV at h
    rw [Tryd.underlying55] at h
    obtain ⟨hl, hf⟩ := h
    rw [cells55] at hl
    unfold okD cI
    generalize v.cells = ds at *
    match ds, hl with
    | [d0, d1, d2, d3], _ =>
    have h0 := hf _ (List.mem_cons_self)
    have h1 := hf _ (List.mem_cons_of_mem _ List.mem_cons_self)
    have h2 := hf _ (List.mem_cons_of_mem _ (List.mem_cons_of_mem _ List.mem_cons_self))
    have h3 := hf _ (List.mem_cons_of_mem _ (List.mem_cons_of_mem _ (List.mem_cons_of_mem _ List.mem_cons_self)))
    obtain ⟨a, e0, _⟩ := ty_int Tryd.underlying53 h0
    obtain ⟨s, e1, _⟩ := ty_str Tryd.underlying9 h1
    obtain ⟨b, e2, wb⟩ := ty_int Tryd.underlying3 h2
    obtain ⟨c, e3, _⟩ := ty_int Tryd.underlying3 h3
    simp [cells53, cells9, cells3] at e0 e1 e2 e3
    subst e0; subst e1; subst e2; subst e3
    obtain ⟨w1, w2⟩ := wf64 wb
    show (true && decide (-9223372036854775808 ≤ b) && decide (b ≤ 9223372036854775807)) = true
    rw [decide_eq_true w1, decide_eq_true w2]; rfl
section
variable {H : Type} {enc : TypeId × Value → H} {W : World} {base : Nat} {held : Bool}
/-- an argument of the type []api.Token -/
theorem open_toks {r : Reach} {b0 : Nat} {v : Value} {d : DataW H} {ps : List MemPlace} (hval : Value.okWide Tryd.prog W r b0 23 v) (hd : DataW.Trod enc Tryd.prog W base (fun _ => true) held 23 v d ps) :
    ∃ xs : List DV, PEnc bare W [] (.d (.slc 4 xs)) v ∧ xs.all okD = true ∧ xs.length ≤ maxLen := by
  obtain ⟨n, u, h1, ha, h3⟩ := open_arg plain_toks rfl hval hd
  cases n with
  | zero => exact h3.elim
  | succ n =>
    unfold tyV at h3
    rw [Tryd.underlying23] at h3
    obtain ⟨vs, e, hl, hv⟩ := h3
    rw [cells55] at e
    have hu : u = .slc 4 vs := by
      have hs : isStruct Tryd.prog 23 = false := by kernel_rfl
      rw [hs] at ha
      cases u with
      | agg l => cases ha
      | slc k l => simp only [DV.cells, List.cons.injEq, and_true] at e; exact e
      | _ => simp only [DV.cells, List.cons.injEq, and_true] at e; cases e
    subst hu
    exact ⟨vs, h1, by rw [List.all_eq_true]; intro x hx; exact ty_tok (hv x hx).2, hl⟩
end
theorem laidOut : laidOutB Tryd.prog = true := by kernel_rfl
end Go.Proofs.YtihpkebhgkfiaaaDoor
end

section
set_option maxRecDepth 100000
namespace Go.Proofs.YtihpkebhgkfiaaaDoor
open Go.PS Go.Shelf Go.Lib
open Go.ChangeShapes Go.WideShapes Go.ChangeAt Go.RowKit
open Go.ChangeMaps (open_string shut_string)

theorem s11_true {xs : List DV} {s : List UInt8} (h : xs.all okD = true) : (S11 [.d (.slc 4 xs), .d (.str s)]).val = some (.d (.bool true)) := by
  unfold S11
  simp only [Tr.val_chk, Tr.val_ok]
  rw [chk_t h]
theorem enc_str {W : World} {s : ByteArray} (hs : s.size ≤ maxLen) : PEnc bare W [] (.d (.str s.data.toList)) (.string s) := by
  have h1 : PEnc bare W [] (.d (.str s.data.toList)) (.string ⟨s.data.toList.toArray⟩) := .d (.str _ (by
    rw [← Lib.size_eq]; unfold maxLen at hs; omega))
  have e : (⟨s.data.toList.toArray⟩ : ByteArray) = s := by cases s; simp
  rwa [e] at h1
theorem back16_lifted (os : Os) (started : os.Started) (H : Type) (enc : TypeId × Value → H) :
    ReturnsInHanded {} Tryd.checked os 11 .any (fun w args => (Rows.tokenBackSpec.pre enc Tryd.prog Tryd.f11 Rows.tokenBackRow.domain false w args ∧ laidMetH Tryd.prog Rows.tokenBackRow.laid w) ∧ sizedMet enc Tryd.prog Tryd.f11 (OpenSpec.ofChange Rows.tokenBackSpec) false w args)
      (Rows.tokenBackSpec.post enc Tryd.prog Tryd.f11 false true false false) := by
  refine returnsInHanded_of_change_and (C := Tryd.checked) (X := fun w _ => laidMetH Tryd.prog Rows.tokenBackRow.laid w) (fun _ _ _ hh h => h.of_heap hh) own started (by kernel_rfl) Tryd.func11
    (ChangeSpec.witness_at (enc := enc) (C := Tryd.checked) (os := os) (X := fun w _ => laidMetH Tryd.prog Rows.tokenBackRow.laid w) false (World.laidAll Tryd.prog os laid) #[.slice none 0 0, .string ⟨#[]⟩] 8 (World.laidAll_os _ _ _) (by kernel_rfl) (by kernel_rfl) (by kernel_rfl) (by kernel_rfl) (by kernel_rfl) (laid_met os _)) ?_
  intro W base args ds gs before hval0 hW _ _ hL _
  have hval : ∀ (j : Nat) t v, Tryd.f11.params[j]? = some t → args[j]? = some v → Value.okWide Tryd.prog W .any base t v := hval0
  have hW' := hW
  obtain ⟨p, q, hA0, hV0, rfl, _, _⟩ := hW
  have hA : DataW.TrodAll enc Tryd.prog W 0 (fun _ => true) true Tryd.f11.params.toList args.toList ds p := hA0
  rw [Tryd.params11] at hA hval
  obtain ⟨v0, v1, d0, d1, p0, p1, rfl, rfl, rfl, h0, h1⟩ := trodAll_two hA
  obtain ⟨rfl, rfl⟩ := trodVars_none hV0
  obtain ⟨xs, hx, hok, _⟩ := open_toks (hval 0 23 _ rfl rfl) h0
  obtain ⟨t, rfl, rfl, rfl, wt⟩ := open_string Tryd.underlying9 (hval 1 9 _ rfl rfl) h1
  have hlt : ∀ x ∈ p0, x.block < W.heap.size := fun x hx => hW'.lt x (by simpa using hx)
  have e1 : ∀ d0 d1 : DataW H, Rows.tokenBackSpec.fn H ([d0, d1] ++ []) = { results := [.lit (.bool true)], args := [d0, d1] } := fun _ _ => rfl
  refine (law_true (ok11 W (laid_world hL)) (.cons hx (.cons (enc_str wt) .nil)) (s11_true hok)).mono ?_
  rintro e W' ⟨rfl, bel⟩
  refine ⟨_, rfl, _, _, _, [], p0 ++ [], [], hW', ?_, ?_, ?_, bel.frame _, fun h => by cases h⟩
  · rw [e1]; exact trodAll_mk1 (shut_bool Tryd.underlying4 true)
  · rw [e1]; exact trodAll_mk2 (Below.trod laidOut (by kernel_rfl) (of_decide_eq_true (by kernel_rfl)) h0 bel hlt) (shut_string Tryd.underlying9 wt)
  · rw [e1]; rfl

theorem back16_holds : Rows.TokenBackSaid :=
  OpenClaim.holds_of_wide 11 Tryd.f11 rfl rfl rfl rfl rfl rfl rfl ⟨rfl, rfl, rfl, rfl, rfl⟩ rfl rfl rfl rfl rfl (by kernel_rfl) Tryd.func11 (by kernel_rfl)
    (of_decide_eq_true (by kernel_rfl)) (by unfold Func.isWrapper; rw [if_neg (of_decide_eq_false (by kernel_rfl))]; exact ⟨rfl, rfl⟩)
    (fun os started H enc _ => back16_lifted os started H enc)
end Go.Proofs.YtihpkebhgkfiaaaDoor
end

section
namespace Go.Proofs.YtihpkebhgkfiaaaDoor
open Go

theorem tokenBack_card : Rows.TokenBackCardSaid :=
  Claim7.holds_tied_plain_at .later [] [.data, .data, .data, .data, .sentinel, .sentinel, .pinned] true (true, "36bbe3e7eaadf27dabe13b421857fca0247e9a5d163028c61325c415c9f7cfbc") true
    back16_holds (fun _ h => by cases h) (by kernel_rfl) (fun _ h => by cases h) tokenBack_row_tie rfl ⟨rfl, rfl⟩ (by kernel_rfl) rfl
    (fun f fn hf hfn => by
      obtain rfl : f = 11 := Option.some.inj ((show Tryd.prog.funcNamed "fasti/fastilaw16.TokenBack" = some 11 by kernel_rfl).symm.trans hf) |>.symm
      obtain rfl : fn = Tryd.f11 := (Option.some.inj (Tryd.func11.symm.trans hfn)).symm
      exact ⟨by kernel_rfl, fun j t ht => by
        rw [Tryd.params11] at ht
        have h9 : t = 23 ∨ t = 9 := by
          rcases j with _ | _ | j
          · left; simpa using ht.symm
          · right; simpa using ht.symm
          · simp at ht
        rcases h9 with rfl | rfl
        · exact (show Tryd.prog.wantsStandIn 23 = false by kernel_rfl)
        · exact (show Tryd.prog.wantsStandIn 9 = false by kernel_rfl)⟩)
    (by kernel_rfl)
#print axioms tokenBack_card
end Go.Proofs.YtihpkebhgkfiaaaDoor
end
