/- A part of the proof of the claim (the pure semantics PS and the contracts of the functions over it). -/
import Derived.Test.YtihpkebhgkfiaaaDoorTellA
set_option linter.all false
section
namespace Go.PS
open Go.Proofs Go.RowKit
theorem strs_of_enc {o : Own} {w : World} : ∀ {l : List DV} {xs : List Value}, allStr l = true → EncL o w l xs → ∃ bs : List ByteArray, xs = bs.map Value.string ∧ bs.map (·.data.toList) = strsOf l ∧ ∀ b ∈ bs, b.size ≤ 9223372036854775807
  | [], _, _, h => by cases h; exact ⟨[], rfl, rfl, by simp⟩
  | v :: l, _, ha, h => by
    cases h with | cons hh t =>
    cases v with
    | str s =>
      simp only [allStr] at ha
      obtain ⟨bs, rfl, h2, h3⟩ := strs_of_enc ha t
      cases hh with | str _ hs =>
      refine ⟨⟨s.toArray⟩ :: bs, rfl, by simp [strsOf, h2], ?_⟩
      intro b hb
      rcases List.mem_cons.1 hb with rfl | hb
      · exact hs
      · exact h3 b hb
    | _ => simp [allStr] at ha

theorem ok56 {W0 : World} : EKOk Tryd.prog W0 56 (.pure S56) := by
  refine lib_of Tryd.func56 (bodySome _ (by kernel_rfl)) (by kernel_rfl) fun args v h o sig w xs hg hx => ?_
  unfold S56 at h
  split at h
  · rename_i l p
    simp only [Tr.val_ok, Tr.val_chk, chk_some, Option.some.injEq, Bool.and_eq_true, decide_eq_true_eq] at h
    obtain ⟨⟨⟨ha, hn⟩, hl⟩, rfl⟩ := h
    cases hx with | cons h1 t =>
    cases t with | cons h2 t =>
    cases t
    cases h2 with | d h2 =>
    cases h2 with | str _ hs =>
    cases h1 with | d h1 =>
    have fin : ∀ {e : Ending} {w' : World}, e = .returned (.string ⟨(Lib.join (strsOf l) p).toArray⟩) → Below w.heap.size w w' → ∃ x, e = .returned x ∧ Below w.heap.size w w' ∧ (∀ o sig, PEnc o w' sig (.d (.str (Lib.join (strsOf l) p))) x) ∧ ∀ k, (cmpV (.d (.str (Lib.join (strsOf l) p))) k).noOwn := by
      intro e w' he hb
      exact ⟨_, he, hb, fun _ _ => .d (.str _ (by omega)), fun k => by unfold cmpV; dsimp only; split <;> trivial⟩
    rcases h1.slc_inv with ⟨rfl, rfl⟩ | ⟨b, off, cap, ys, rfl, hcap, hmax, hy, hcell⟩
    · refine (Tryd.strings_Join_none none 0 _ w).mono ?_
      rintro e w' ⟨he, rfl⟩
      exact fin (by rw [he]; rfl) (.refl _ _)
    · obtain ⟨bs, rfl, hb2, hb3⟩ := strs_of_enc ha hy
      have hlen : l.length = bs.length := by rw [hy.length]; simp
      have hc : ∀ (j : Nat) x, bs[j]? = some x → w.cell? ⟨b, off + j, none⟩ = some (.string x) := by
        intro j x hj
        have := (hcell j (.string x) (by simp [hj])).2 0 (.string x) rfl
        have := this.1
        simpa using this
      by_cases hz : l = []
      · subst hz
        have : bs = [] := List.eq_nil_of_length_eq_zero (by rw [← hlen]; rfl)
        subst this
        refine (Tryd.strings_Join_none _ cap _ w).mono ?_
        rintro e w' ⟨he, rfl⟩
        exact fin (by rw [he]; rfl) (.refl _ _)
      · have hpos : 0 < bs.length := by rw [← hlen]; exact List.length_pos_iff.2 hz
        have hbk : b < w.heap.size := by
          have := hc 0 bs[0] (List.getElem?_eq_getElem hpos)
          by_cases hlt : b < w.heap.size
          · exact hlt
          · exfalso
            unfold World.cell? at this
            simp only [] at this
            rw [Array.getElem?_eq_none (by omega)] at this
            simp at this
        have hpl : (⟨p.toArray⟩ : ByteArray).data.toList = p := rfl
        have := Tryd.strings_Join b off cap bs ⟨p.toArray⟩ w hc hbk (by rw [← hlen]; exact hn) (by rw [← hlen]; exact hcap) (by rw [hb2, hpl]; exact hl)
        rw [hb2, hpl] at this
        rw [hlen]
        refine this.mono ?_
        rintro e w' ⟨he, hb⟩
        exact fin he hb
  · simp [Tr.val_no] at h
end Go.PS
end

section
namespace Go.PS
open Go.Proofs
theorem strsOf_append : ∀ (l r : List DV), allStr l = true → strsOf (l ++ r) = strsOf l ++ strsOf r
  | [], _, _ => rfl
  | v :: l, r, h => by
    cases v with
    | str s => simp only [allStr] at h; simp only [List.cons_append, strsOf, strsOf_append l r h]
    | _ => simp [allStr] at h
theorem allStr_append : ∀ (l r : List DV), allStr l = true → allStr r = true → allStr (l ++ r) = true
  | [], _, _, h => h
  | v :: l, r, h, h2 => by
    cases v with
    | str s => simp only [allStr] at h; simp only [List.cons_append, allStr, allStr_append l r h h2]
    | _ => simp [allStr] at h
theorem writs_all (l : List Int) : allStr (writs l) = true := by
  induction l with
  | nil => rfl
  | cons r l ih => exact ih
theorem writs_strs (l : List Int) : strsOf (writs l) = l.map writ := by
  induction l with
  | nil => rfl
  | cons r l ih => show writ r :: strsOf (writs l) = _; rw [ih]; rfl
theorem writ_len (r : Int) : (writ r).length ≤ 5 := by
  have := enc_len r
  unfold writ
  repeat' split
  all_goals simp
  all_goals omega
theorem flat_len (l : List Int) : ((l.map writ).flatten).length ≤ 5 * l.length := by
  induction l with
  | nil => simp
  | cons r l ih =>
    have := writ_len r
    simp only [List.map_cons, List.flatten_cons, List.length_append, List.length_cons]
    omega
theorem join_flat (xs : List (List UInt8)) : Lib.join xs [] = xs.flatten := by
  unfold Lib.join List.intercalate
  induction xs with
  | nil => rfl
  | cons x xs ih =>
    cases xs with
    | nil => simp
    | cons y ys => simp only [List.intersperse_cons_cons, List.flatten_cons, List.nil_append, ih]

theorem ok23 (W0 : World) (hW : Laid W0) : EKOk Tryd.prog W0 23 (.pure S23) := by
  refine pure_of (tyOk 0 [(53, .eff (frameT S53)), (56, .pure S56)]) (look_ok (all_cons (ok53 W0 hW) (all_cons ok56 all_nil))) mixed fn23 (lpsOk_no _ _) fun args r h => ?_
  unfold S23 at h
  split at h
  · rename_i s
    refine (run23 0 s).trans ?_
    rw [← h]
    simp only [Tr.val_chk, chk_some, decide_eq_true_eq] at h
    have h0 := h.1
    clear h
    have e0 : ∀ z : DV, fillS (rep 1 z) [(0, DV.str ([34] : List UInt8))] = [.str [34]] := fun _ => rfl
    have hr := (eachR_le s FU 0 (Nat.zero_le _)).1
    have hr : (runesR s).length ≤ s.length := by unfold runesR; omega
    have hwl : (writs (runesR s)).length = (runesR s).length := by unfold writs; simp
    have h0 : s.length + 2 ≤ 1000000 := h0
    have ha : allStr ([DV.str [34]] ++ writs (runesR s) ++ [DV.str [34]]) = true := allStr_append _ _ (allStr_append _ _ rfl (writs_all _)) rfl
    have hs : strsOf ([DV.str [34]] ++ writs (runesR s) ++ [DV.str [34]]) = [34] :: (runesR s).map writ ++ [[34]] := by
      rw [strsOf_append _ _ (allStr_append _ _ rfl (writs_all _)), strsOf_append _ _ rfl, writs_strs]; rfl
    have hj : Lib.join (strsOf ([DV.str [34]] ++ writs (runesR s) ++ [DV.str [34]])) [] = quoteR s := by
      rw [join_flat, hs]; unfold quoteR; simp
    have hf := flat_len (runesR s)
    have hq : (quoteR s).length ≤ 140737488355328 := by unfold quoteR; simp only [List.length_append, List.length_cons, List.length_nil]; omega
    have hll : ([DV.str [34]] ++ writs (runesR s) ++ [DV.str [34]]).length ≤ 140737488355328 := by simp only [List.length_append, List.length_cons, List.length_nil, hwl]; omega
    simp only [Tr.val_ok, Tr.val_cnd, Tr.val_chk, e0, hj]
    have c1 : (decide (s.length + 1 ≤ big) && decide (([DV.str [34]] : List DV).length ≤ 1)) = true := by unfold big; simp; omega
    have c2 : limit 16 (([DV.str [34]] ++ writs (runesR s)).length + ([DV.str [34]] : List DV).length) = true := by
      unfold limit; rw [decide_eq_true_eq]; simp only [List.length_append, List.length_cons, List.length_nil, hwl]; omega
    have c3 : (allStr ([DV.str [34]] ++ writs (runesR s) ++ [DV.str [34]]) && decide (([DV.str [34]] ++ writs (runesR s) ++ [DV.str [34]]).length ≤ 140737488355328) && decide ((quoteR s).length ≤ 140737488355328)) = true := by
      rw [ha]; simp only [Bool.and_eq_true, decide_eq_true_eq, true_and]; exact ⟨hll, hq⟩
    rw [chk_t c1, chk_t c2, chk_t c3, chk_p (by unfold big; omega)]
    cases okR s <;> rfl
  · simp [Tr.val_no] at h
theorem ok20 (W0 : World) (hW : Laid W0) : EKOk Tryd.prog W0 20 (.pure S20) := by
  refine pure_of (tyOk 0 [(21, .pure S21), (23, .pure S23), (49, .pure S49)]) (look_ok (all_cons (ok21 W0 hW) (all_cons (ok23 W0 hW) (all_cons (ok49 hW) all_nil)))) mixed fn20x (lpsOk_no _ _) fun args r h => ?_
  unfold S20 at h
  split at h
  · rename_i k n s
    refine (run20x 0 k n s).trans ?_
    rw [← h]
    simp only [Tr.val_chk, chk_some, Bool.and_eq_true, decide_eq_true_eq] at h
    obtain ⟨⟨h0, h1⟩, h2⟩ := h.1
    clear h
    have h40 : rightR k n s = true → ¬ k = 1 → s.length ≤ 40 ∧ okR s = true := by unfold rightR; simp only [Bool.or_eq_true, Bool.and_eq_true, decide_eq_true_eq]; grind
    have hb : s.length ≤ 40 → s.length + 2 ≤ big := by unfold big; omega
    simp only [Tr.val_ok, Tr.val_cnd, Tr.val_chk]
    rw [chk_p h0, chk_t (b := decide (s.length ≤ big) && decide (-9223372036854775808 ≤ n) && decide (n ≤ 9223372036854775807)) (by simp [h0, h1, h2])]
    rw [chk_t (b := decide (-9223372036854775808 ≤ n) && decide (n ≤ 9223372036854775807)) (by simp [h1, h2])]
    cases hr : rightR k n s with
    | false => rfl
    | true =>
      rw [cnd_tt, cnd_tt]
      by_cases k1 : k = 1
      · rw [cnd_p k1, cnd_p k1]
      · obtain ⟨g1, g2⟩ := h40 hr k1
        rw [cnd_n k1, cnd_n k1, chk_p (hb g1), cnd_t g2]
  · simp [Tr.val_no] at h
end Go.PS
end

section
namespace Go.PS
open Go.Proofs
def S103 : List PV → Tr PV
  | [.d (.int .i64 n)] => .chk (decide (0 ≤ n) && decide (n < 16)) (.ok (.d (.str [hexDig n])))
  | _ => .no
/-- a byte as it is written -/
def writB (b : Int) : List UInt8 :=
  if b = 34 ∨ b = 92 then [92, UInt8.ofNat b.toNat]
  else if b = 10 then [92, 110]
  else if b < 32 ∨ b = 127 then [92, 120, hexDig (b / 16), hexDig (b % 16)]
  else [UInt8.ofNat b.toNat]
def S82 : List PV → Tr PV
  | [.d (.int .i64 b)] => .chk (decide (0 ≤ b) && decide (b < 256)) (.ok (.d (.str (writB b))))
  | _ => .no
def flatB : List UInt8 → List UInt8
  | [] => []
  | b :: s => writB (b.toNat : Int) ++ flatB s
def T52 (st : St) : Tr (Ex × St) :=
  bif shape 20 [0, 3, 4] st.slots then
    match gt .undef st.slots 0, gt .undef st.slots 3, gt .undef st.slots 4, st.heap with
    | .d (.str s), .d (.str out), .d (.int .i64 i), [] =>
      .chk (decide (0 ≤ i) && decide (i ≤ s.length) && decide (s.length ≤ big) && decide (out.length ≤ 4 * i + 1)) (.ok (.exit 0, ⟨slots 20 [(0, .d (.str s)), (3, .d (.str (out ++ flatB (s.drop i.toNat))))], []⟩))
    | _, _, _, _ => .no
  else .no
def L52 : Lps := fun i => bif Nat.beq i 3 then some (allBut 20 [0, 3, 4], allBut 20 [0, 3], T52) else none
def quoteB (s : List UInt8) : List UInt8 := 34 :: flatB s ++ [34]
def S52 : List PV → Tr PV
  | [.d (.str s)] => .chk (decide (s.length ≤ big)) (.ok (.d (.str (quoteB s))))
  | _ => .no
def T29 (st : St) : Tr (Ex × St) :=
  bif shape 21 [0, 3, 4] st.slots then
    match gt .undef st.slots 0, gt .undef st.slots 3, gt .undef st.slots 4, st.heap with
    | .d (.str s), .d (.int .i64 n), .d (.int .i64 a), [] =>
      .chk (decide (0 ≤ a) && decide (a ≤ s.length) && decide (s.length ≤ big) && decide (0 ≤ n) && decide (n ≤ a)) (.cnd (eachR s FU a.toNat).1
        (.ok (.exit 0, ⟨slots 21 [(0, .d (.str s)), (3, .d (.int .i64 (n + (eachR s FU a.toNat).2.2.length)))], []⟩))
        (.ok (.ret, ⟨slots 21 [(0, .d (.str s)), (2, .d (.int .i64 (-1))), (3, .d (.int .i64 (n + (eachR s FU a.toNat).2.2.length)))], []⟩)))
    | _, _, _, _ => .no
  else .no
def L29 : Lps := fun i => bif Nat.beq i 3 then some (allBut 21 [0, 3, 4], allBut 21 [0, 2, 3], T29) else none
def S50 : List PV → Tr PV
  | [.d (.agg [.int .i64 k, .int .i64 n, .str s])] => .chk (decide (s.length ≤ big)) (.ok (.d (.bool (rightR k n s))))
  | _ => .no
def S24 : List PV → Tr PV
  | [.d (.str s)] => .chk (decide (s.length ≤ big)) (.cnd (okR s) (.ok (.tup [.d (.str (quoteB s)), .d (.int .i64 0)])) (.ok (.tup [.d (.str []), .d (.int .i64 2)])))
  | _ => .no
/-- of at most so many digits; 0: one digit, not negative -/
def dOk : Nat → Int → Bool
  | 0, n => decide (0 ≤ n) && decide (n < 10)
  | k + 1, n => decide (n.natAbs < 10 ^ (k + 1)) && decide (k < 19)
def S51 (k : Nat) : List PV → Tr PV
  | [.d (.int .i64 n)] => .chk (dOk k n) (.ok (.d (.str (Lib.itoa n))))
  | _ => .no
def S22 : List PV → Tr PV
  | [.d (.agg [.int .i64 k, .int .i64 n, .str s])] => .chk (decide (s.length ≤ big) && decide (-9223372036854775808 ≤ n) && decide (n ≤ 9223372036854775807)) (.cnd (rightR k n s)
      (.cnd (decide (k = 1)) (.ok (.tup [.d (.str (Lib.itoa n)), .d (.int .i64 0)])) (.ok (.tup [.d (.str (quoteB s)), .d (.int .i64 0)])))
      (.ok (.tup [.d (.str []), .d (.int .i64 2)])))
  | _ => .no
end Go.PS
end

section
namespace Go.PS
open Go.Proofs
set_option maxRecDepth 100000
/-! fasti fastiref01.hex -/
theorem fn103 : FnOk Tryd.prog 103 7 [.tmp 2] (body Tryd.f103) := ⟨Tryd.f103, Tryd.func103, bodySome _ (by kernel_rfl), by kernel_rfl, by kernel_rfl, by kernel_rfl, by kernel_rfl⟩
theorem run103 (F : Nat) (n : Int) : runP (ctx F []) noL 7 [.tmp 2] (body Tryd.f103) [.d (.int .i64 n)] =
    Tr.val
      (.chk (decide (0 ≤ n))
      (.chk (decide (n ≤ IntKind.i64.wrap (n + 1)))
      (.chk (decide
        (IntKind.i64.wrap (n + 1) ≤
          (↑([48, 49, 50, 51, 52, 53, 54, 55, 56, 57, 97, 98, 99, 100, 101, 102] : List UInt8).length : Int)))
      (.ok (PV.d
        (DV.str
          (List.drop n.toNat
            (List.take (IntKind.i64.wrap (n + 1)).toNat
              ([48, 49, 50, 51, 52, 53, 54, 55, 56, 57, 97, 98, 99, 100, 101, 102] : List UInt8))))))))) := by kernel_rfl
/-! fasti fastiref01.written -/
theorem fn82 : FnOk Tryd.prog 82 37 [.tmp 2] (body Tryd.f82) := ⟨Tryd.f82, Tryd.func82, bodySome _ (by kernel_rfl), by kernel_rfl, by kernel_rfl, by kernel_rfl, by kernel_rfl⟩
theorem run82 (F : Nat) (b : Int) : runP (ctx F [(103, .pure S103)]) noL 37 [.tmp 2] (body Tryd.f82) [.d (.int .i64 b)] =
    Tr.val
      (.cnd (decide (b = 34))
        (.ok (PV.d
        (DV.str
          (([92] : List UInt8) ++
            bytesOf
              (fillS (rep 1 (zeroDV ((ctx F [(103, EK.pure S103)]).ty 5))) [(0, DV.int IntKind.u8 (IntKind.u8.wrap b))])))))
        (.cnd (decide (b = 92))
          (.ok (PV.d
        (DV.str
          (([92] : List UInt8) ++
            bytesOf
              (fillS (rep 1 (zeroDV ((ctx F [(103, EK.pure S103)]).ty 5))) [(0, DV.int IntKind.u8 (IntKind.u8.wrap b))])))))
          (.cnd (decide (b = 10))
            (.ok (PV.d (DV.str ([92, 110] : List UInt8))))
            (.cnd (decide (b < 32))
              (.chk (decide (0 ≤ IntKind.i64.wrap (b.tdiv 16)) && decide (IntKind.i64.wrap (b.tdiv 16) < 16))
              (.chk (decide (0 ≤ b.tmod 16) && decide (b.tmod 16 < 16))
              (.ok (PV.d (DV.str (([92, 120] : List UInt8) ++ [hexDig (IntKind.i64.wrap (b.tdiv 16))] ++ [hexDig (b.tmod 16)]))))))
              (.cnd (decide (b = 127))
                (.chk (decide (0 ≤ IntKind.i64.wrap (b.tdiv 16)) && decide (IntKind.i64.wrap (b.tdiv 16) < 16))
                (.chk (decide (0 ≤ b.tmod 16) && decide (b.tmod 16 < 16))
                (.ok (PV.d (DV.str (([92, 120] : List UInt8) ++ [hexDig (IntKind.i64.wrap (b.tdiv 16))] ++ [hexDig (b.tmod 16)]))))))
                (.ok (PV.d
        (DV.str
          (bytesOf
            (fillS (rep 1 (zeroDV ((ctx F [(103, EK.pure S103)]).ty 5))) [(0, DV.int IntKind.u8 (IntKind.u8.wrap b))])))))))))) := by kernel_rfl
theorem round52_0 (F : Nat) {R : Type} (s out : List UInt8) (i : Int) (K : Ex → St → Option R) (G : St → Option R) : roundK (pcodeK (ctx F [(82, .pure S82)]) noL (lp Tryd.f52 0)) 0 (allBut 20 [0, 3, 4] ++ temps (lp Tryd.f52 0)) (allBut 20 [0, 3]) ⟨slots 20 [(0, .d (.str s)), (3, .d (.str out)), (4, .d (.int .i64 i))], []⟩ K G =
    Tr.run
      (.cnd (decide (i < (↑s.length : Int)))
        (.chk (decide (0 ≤ i))
        (.chk (decide (i.toNat < s.length))
        (.chk (decide (0 ≤ IntKind.i64.wrap (↑(s.getD i.toNat 0).toNat : Int)) &&
        decide (IntKind.i64.wrap (↑(s.getD i.toNat 0).toNat : Int) < 256))
        (.chk (decide (out.length + (writB (IntKind.i64.wrap (↑(s.getD i.toNat 0).toNat : Int))).length ≤ 9223372036854775807))
        (.ok (.inr ⟨slots 20 [(0, PV.d (DV.str s)), (3, PV.d (DV.str (out ++ writB (IntKind.i64.wrap (↑(s.getD i.toNat 0).toNat : Int))))), (4, PV.d (DV.int IntKind.i64 (IntKind.i64.wrap (i + 1))))], []⟩))))))
        (.ok (.inl (Ex.exit 0, ⟨slots 20 [(0, PV.d (DV.str s)), (3, PV.d (DV.str out))], []⟩)))) (rnd K G) := by kernel_rfl
/-! fasti fastiref01.Quoted -/
theorem fn52 : FnOk Tryd.prog 52 20 [.tmp 2] (body Tryd.f52) := ⟨Tryd.f52, Tryd.func52, bodySome _ (by kernel_rfl), by kernel_rfl, by kernel_rfl, by kernel_rfl, by kernel_rfl⟩
theorem run52 (F : Nat) (s : List UInt8) : runP (ctx F [(82, .pure S82)]) L52 20 [.tmp 2] (body Tryd.f52) [.d (.str s)] =
    Tr.val
      (.chk (decide (0 ≤ 0) && decide (0 ≤ (↑s.length : Int)) && decide (s.length ≤ big) &&
        decide ((↑([34] : List UInt8).length : Int) ≤ 4 * 0 + 1))
      (.chk (decide
        ((([34] : List UInt8) ++ flatB (List.drop (Int.toNat 0) s)).length + ([34] : List UInt8).length ≤
          9223372036854775807))
      (.ok (PV.d (DV.str (([34] : List UInt8) ++ flatB (List.drop (Int.toNat 0) s) ++ ([34] : List UInt8))))))) := by kernel_rfl
theorem round29_0 (F : Nat) {R : Type} (s : List UInt8) (n a : Int) (K : Ex → St → Option R) (G : St → Option R) : roundK (pcodeK (ctx F [(61, .pure S61)]) noL (lp Tryd.f29 0)) 0 (allBut 21 [0, 3, 4] ++ temps (lp Tryd.f29 0)) (allBut 21 [0, 2, 3]) ⟨slots 21 [(0, .d (.str s)), (3, .d (.int .i64 n)), (4, .d (.int .i64 a))], []⟩ K G =
    Tr.run
      (.cnd (decide (a < (↑s.length : Int)))
        (.chk (decide (0 ≤ a) && decide (a + 4 < lim))
        (.cnd (decide (width s a = 0))
          (.ok (.inl (Ex.ret, ⟨slots 21 [(0, PV.d (DV.str s)), (2, PV.d (DV.int IntKind.i64 (Int.negSucc 0))), (3, PV.d (DV.int IntKind.i64 n))], []⟩)))
          (.ok (.inr ⟨slots 21 [(0, PV.d (DV.str s)), (3, PV.d (DV.int IntKind.i64 (IntKind.i64.wrap (n + 1)))), (4, PV.d (DV.int IntKind.i64 (IntKind.i64.wrap (a + width s a))))], []⟩))))
        (.ok (.inl (Ex.exit 0, ⟨slots 21 [(0, PV.d (DV.str s)), (3, PV.d (DV.int IntKind.i64 n))], []⟩)))) (rnd K G) := by kernel_rfl
/-! fasti fastiref01.Runes -/
theorem fn29 : FnOk Tryd.prog 29 21 [.tmp 2] (body Tryd.f29) := ⟨Tryd.f29, Tryd.func29, bodySome _ (by kernel_rfl), by kernel_rfl, by kernel_rfl, by kernel_rfl, by kernel_rfl⟩
theorem run29 (F : Nat) (s : List UInt8) : runP (ctx F [(61, .pure S61)]) L29 21 [.tmp 2] (body Tryd.f29) [.d (.str s)] =
    Tr.val
      (.chk (decide (0 ≤ 0) && decide (0 ≤ (↑s.length : Int)) && decide (s.length ≤ big) && decide (0 ≤ 0) && decide (0 ≤ 0))
      (.cnd ((eachR s FU (Int.toNat 0)).fst)
        (.ok (PV.d (DV.int IntKind.i64 (0 + (↑(eachR s FU (Int.toNat 0)).snd.snd.length : Int)))))
        (.ok (PV.d (DV.int IntKind.i64 (Int.negSucc 0)))))) := by kernel_rfl
/-! fasti fastiref01.Right -/
theorem fn50 : FnOk Tryd.prog 50 33 [.tmp 2] (body Tryd.f50) := ⟨Tryd.f50, Tryd.func50, bodySome _ (by kernel_rfl), by kernel_rfl, by kernel_rfl, by kernel_rfl, by kernel_rfl⟩
theorem run50 (F : Nat) (k n : Int) (s : List UInt8) : runP (ctx F [(29, .pure S28)]) noL 33 [.tmp 2] (body Tryd.f50) [.d (.agg [.int .i64 k, .int .i64 n, .str s])] =
    Tr.val
      (.cnd (decide (k = 1))
        (.cnd (decide (s = ([] : List UInt8)))
          (.ok (PV.d (DV.bool true)))
          (.cnd (decide (k = 2))
            (.cnd (decide (n = 0))
              (.cnd (decide ((↑s.length : Int) ≤ 40))
                (.chk (decide (s.length ≤ big))
                (.ok (PV.d (DV.bool (decide (runesN s ≥ 0))))))
                (.ok (PV.d (DV.bool false))))
              (.ok (PV.d (DV.bool false))))
            (.ok (PV.d (DV.bool false)))))
        (.cnd (decide (k = 2))
          (.cnd (decide (n = 0))
            (.cnd (decide ((↑s.length : Int) ≤ 40))
              (.chk (decide (s.length ≤ big))
              (.ok (PV.d (DV.bool (decide (runesN s ≥ 0))))))
              (.ok (PV.d (DV.bool false))))
            (.ok (PV.d (DV.bool false))))
          (.ok (PV.d (DV.bool false))))) := by kernel_rfl
/-! fasti fastiref01.Check -/
theorem fn25 : FnOk Tryd.prog 25 6 [.tmp 2] (body Tryd.f25) := ⟨Tryd.f25, Tryd.func25, bodySome _ (by kernel_rfl), by kernel_rfl, by kernel_rfl, by kernel_rfl, by kernel_rfl⟩
theorem run25 (F : Nat) (k n : Int) (s : List UInt8) : runP (ctx F [(50, .pure S50)]) noL 6 [.tmp 2] (body Tryd.f25) [.d (.agg [.int .i64 k, .int .i64 n, .str s])] =
    Tr.val
      (.chk (decide (s.length ≤ big))
      (.cnd (!rightR k n s)
        (.ok (PV.d (DV.int IntKind.i64 (2))))
        (.ok (PV.d (DV.int IntKind.i64 (0)))))) := by kernel_rfl
/-! fasti fastiref01.Quote -/
theorem fn24 : FnOk Tryd.prog 24 9 [.tmp 2, .tmp 3] (body Tryd.f24) := ⟨Tryd.f24, Tryd.func24, bodySome _ (by kernel_rfl), by kernel_rfl, by kernel_rfl, by kernel_rfl, by kernel_rfl⟩
theorem run24 (F : Nat) (s : List UInt8) : runP (ctx F [(29, .pure S28), (52, .pure S52)]) noL 9 [.tmp 2, .tmp 3] (body Tryd.f24) [.d (.str s)] =
    Tr.val
      (.chk (decide (s.length ≤ big))
      (.cnd (decide (runesN s < 0))
        (.ok (PV.tup [PV.d (DV.str ([] : List UInt8)), PV.d (DV.int IntKind.i64 (2))]))
        (.chk (decide (s.length ≤ big))
        (.ok (PV.tup [PV.d (DV.str (quoteB s)), PV.d (DV.int IntKind.i64 (0))]))))) := by kernel_rfl
/-! fasti fastiref01.Digits -/
theorem fn51 : FnOk Tryd.prog 51 34 [.tmp 2] (body Tryd.f51) := ⟨Tryd.f51, Tryd.func51, bodySome _ (by kernel_rfl), by kernel_rfl, by kernel_rfl, by kernel_rfl, by kernel_rfl⟩
theorem run51 (F : Nat) (n : Int) : runP (ctx F []) noL 34 [.tmp 2] (body Tryd.f51) [.d (.int .i64 n)] =
    Tr.val
      (.cnd (decide (n < 0))
        (.chk (decide (n > -10))
        .no)
        (.chk (decide (n < 10))
        (.ok (PV.d
        (DV.str
          (bytesOf
            (fillS (rep 1 (zeroDV ((ctx F []).ty 5)))
              [(0, DV.int IntKind.u8 (IntKind.u8.wrap (IntKind.i64.wrap (48 + n))))]))))))) := by kernel_rfl
theorem run51_2 (F : Nat) (n : Int) (k : Nat) : runP (ctx F [(51, .pure (S51 k))]) noL 34 [.tmp 2] (body Tryd.f51) [.d (.int .i64 n)] =
    Tr.val
      (.cnd (decide (n < 0))
        (.cnd (decide (n > -10))
          (.chk (dOk k (IntKind.i64.wrap (0 - n.tmod 10)))
          (.chk (decide
        (([45] : List UInt8).length + (Lib.itoa (IntKind.i64.wrap (0 - n.tmod 10))).length ≤ 9223372036854775807))
          (.ok (PV.d (DV.str (([45] : List UInt8) ++ Lib.itoa (IntKind.i64.wrap (0 - n.tmod 10))))))))
          (.chk (dOk k (IntKind.i64.wrap (n.tdiv 10)))
          (.chk (dOk k (IntKind.i64.wrap (0 - n.tmod 10)))
          (.chk (decide
        ((Lib.itoa (IntKind.i64.wrap (n.tdiv 10))).length + (Lib.itoa (IntKind.i64.wrap (0 - n.tmod 10))).length ≤
          9223372036854775807))
          (.ok (PV.d (DV.str (Lib.itoa (IntKind.i64.wrap (n.tdiv 10)) ++ Lib.itoa (IntKind.i64.wrap (0 - n.tmod 10))))))))))
        (.cnd (decide (n < 10))
          (.ok (PV.d
        (DV.str
          (bytesOf
            (fillS (rep 1 (zeroDV ((ctx F [(51, EK.pure (S51 k))]).ty 5)))
              [(0, DV.int IntKind.u8 (IntKind.u8.wrap (IntKind.i64.wrap (48 + n))))])))))
          (.chk (dOk k (IntKind.i64.wrap (n.tdiv 10)))
          (.chk (dOk k (n.tmod 10))
          (.chk (decide ((Lib.itoa (IntKind.i64.wrap (n.tdiv 10))).length + (Lib.itoa (n.tmod 10)).length ≤ 9223372036854775807))
          (.ok (PV.d (DV.str (Lib.itoa (IntKind.i64.wrap (n.tdiv 10)) ++ Lib.itoa (n.tmod 10)))))))))) := by kernel_rfl
/-! fasti fastiref01.Text -/
theorem fn22 : FnOk Tryd.prog 22 16 [.tmp 2, .tmp 3] (body Tryd.f22) := ⟨Tryd.f22, Tryd.func22, bodySome _ (by kernel_rfl), by kernel_rfl, by kernel_rfl, by kernel_rfl, by kernel_rfl⟩
theorem run22 (F : Nat) (k n : Int) (s : List UInt8) : runP (ctx F [(50, .pure S50), (51, .pure (S51 19)), (52, .pure S52)]) noL 16 [.tmp 2, .tmp 3] (body Tryd.f22) [.d (.agg [.int .i64 k, .int .i64 n, .str s])] =
    Tr.val
      (.chk (decide (s.length ≤ big))
      (.cnd (!rightR k n s)
        (.ok (PV.tup [PV.d (DV.str ([] : List UInt8)), PV.d (DV.int IntKind.i64 (2))]))
        (.cnd (decide (k = 1))
          (.chk (dOk 19 n)
          (.ok (PV.tup [PV.d (DV.str (Lib.itoa n)), PV.d (DV.int IntKind.i64 (0))])))
          (.chk (decide (s.length ≤ big))
          (.ok (PV.tup [PV.d (DV.str (quoteB s)), PV.d (DV.int IntKind.i64 (0))])))))) := by kernel_rfl
/-! fasti fastiref01.Cmp -/
theorem fn27 : FnOk Tryd.prog 27 53 [.tmp 4] (body Tryd.f27) := ⟨Tryd.f27, Tryd.func27, bodySome _ (by kernel_rfl), by kernel_rfl, by kernel_rfl, by kernel_rfl, by kernel_rfl⟩
theorem run27 (F : Nat) (k n k' n' : Int) (s t : List UInt8) : runP (ctx F []) noL 53 [.tmp 4] (body Tryd.f27) [.d (.agg [.int .i64 k, .int .i64 n, .str s]), .d (.agg [.int .i64 k', .int .i64 n', .str t])] =
    Tr.val
      (.cnd (decide (k = k') && (decide (n = n') && (decide (s = t) && true)))
        (.ok (PV.d (DV.int IntKind.i64 (0))))
        (.cnd (!decide (k = k'))
          (.cnd (decide (k < k'))
            (.ok (PV.d (DV.int IntKind.i64 (Int.negSucc 0))))
            (.cnd (decide (k = k'))
              (.cnd (decide (n < n'))
                (.ok (PV.d (DV.int IntKind.i64 (Int.negSucc 0))))
                (.cnd (decide (k = k'))
                  (.cnd (decide (n = n'))
                    (.cnd (Op.bytesLess s t)
                      (.ok (PV.d (DV.int IntKind.i64 (Int.negSucc 0))))
                      (.ok (PV.d (DV.int IntKind.i64 (1)))))
                    (.ok (PV.d (DV.int IntKind.i64 (1)))))
                  (.ok (PV.d (DV.int IntKind.i64 (1))))))
              (.cnd (decide (k = k'))
                (.cnd (decide (n = n'))
                  (.cnd (Op.bytesLess s t)
                    (.ok (PV.d (DV.int IntKind.i64 (Int.negSucc 0))))
                    (.ok (PV.d (DV.int IntKind.i64 (1)))))
                  (.ok (PV.d (DV.int IntKind.i64 (1)))))
                (.ok (PV.d (DV.int IntKind.i64 (1)))))))
          (.cnd (decide (k = k'))
            (.cnd (decide (n < n'))
              (.ok (PV.d (DV.int IntKind.i64 (Int.negSucc 0))))
              (.cnd (decide (k = k'))
                (.cnd (decide (n = n'))
                  (.cnd (Op.bytesLess s t)
                    (.ok (PV.d (DV.int IntKind.i64 (Int.negSucc 0))))
                    (.ok (PV.d (DV.int IntKind.i64 (1)))))
                  (.ok (PV.d (DV.int IntKind.i64 (1)))))
                (.ok (PV.d (DV.int IntKind.i64 (1))))))
            (.cnd (decide (k = k'))
              (.cnd (decide (n = n'))
                (.cnd (Op.bytesLess s t)
                  (.ok (PV.d (DV.int IntKind.i64 (Int.negSucc 0))))
                  (.ok (PV.d (DV.int IntKind.i64 (1)))))
                (.ok (PV.d (DV.int IntKind.i64 (1)))))
              (.ok (PV.d (DV.int IntKind.i64 (1)))))))) := by kernel_rfl
end Go.PS
end

section
namespace Go.PS
open Go.Proofs
theorem hexDig_piece (n : Int) (h0 : 0 ≤ n) (h1 : n < 16) : List.drop n.toNat (List.take (n + 1).toNat ([48, 49, 50, 51, 52, 53, 54, 55, 56, 57, 97, 98, 99, 100, 101, 102] : List UInt8)) = [hexDig n] := by
  obtain ⟨m, rfl⟩ := Int.eq_ofNat_of_zero_le h0
  have : ∀ m : Fin 16, List.drop (m.val : Int).toNat (List.take ((m.val : Int) + 1).toNat ([48, 49, 50, 51, 52, 53, 54, 55, 56, 57, 97, 98, 99, 100, 101, 102] : List UInt8)) = [hexDig (m.val : Int)] := by decide
  exact this ⟨m, by omega⟩
theorem ok103 (W0 : World) : EKOk Tryd.prog W0 103 (.pure S103) := by
  refine pure_of (tyOk 0 []) (look_ok all_nil) mixed fn103 (lpsOk_no _ _) fun args r h => ?_
  unfold S103 at h
  split at h
  · rename_i n
    refine (run103 0 n).trans ?_
    rw [← h]
    simp only [Tr.val_chk, chk_some, Bool.and_eq_true, decide_eq_true_eq] at h
    obtain ⟨h0, h1⟩ := h.1
    have w : IntKind.i64.wrap (n + 1) = n + 1 := wrap64 (by omega) (by omega)
    have l16 : ([48, 49, 50, 51, 52, 53, 54, 55, 56, 57, 97, 98, 99, 100, 101, 102] : List UInt8).length = 16 := rfl
    simp only [Tr.val_ok, Tr.val_chk, w, l16, hexDig_piece n h0 h1]
    rw [chk_p h0, chk_p (by omega), chk_p (by omega), chk_t (by simp [h0, h1])]
  · simp [Tr.val_no] at h
theorem ok82 (W0 : World) : EKOk Tryd.prog W0 82 (.pure S82) := by
  refine pure_of (tyOk 0 [(103, .pure S103)]) (look_ok (all_cons (ok103 W0) all_nil)) mixed fn82 (lpsOk_no _ _) fun args r h => ?_
  unfold S82 at h
  split at h
  · rename_i b
    refine (run82 0 b).trans ?_
    rw [← h]
    simp only [Tr.val_chk, chk_some, Bool.and_eq_true, decide_eq_true_eq] at h
    obtain ⟨h0, h1⟩ := h.1
    have w8 : IntKind.u8.wrap b = b := wrap8 h0 (by omega)
    have e0 : ∀ z : DV, bytesOf (fillS (rep 1 z) [(0, DV.int .u8 b)]) = [UInt8.ofNat b.toNat] := fun _ => rfl
    have w : IntKind.i64.wrap (b.tdiv 16) = b / 16 := by rw [tdiv_nn h0]; exact wrap64 (by omega) (by omega)
    have m : b.tmod 16 = b % 16 := tmod_nn h0
    have c1 : (decide (0 ≤ b / 16) && decide (b / 16 < 16)) = true := by simp only [Bool.and_eq_true, decide_eq_true_eq]; omega
    have c2 : (decide (0 ≤ b % 16) && decide (b % 16 < 16)) = true := by simp only [Bool.and_eq_true, decide_eq_true_eq]; omega
    simp only [Tr.val_ok, Tr.val_cnd, Tr.val_chk, w8, e0, w, m, chk_t c1, chk_t c2]
    rw [chk_t (by simp [h0, h1])]
    simp only [cnd_i, decide_eq_true_eq]
    unfold writB
    grind
  · simp [Tr.val_no] at h
theorem writB_len (b : Int) : (writB b).length ≤ 4 := by
  unfold writB
  repeat' split
  all_goals simp
theorem flatB_len (s : List UInt8) : (flatB s).length ≤ 4 * s.length := by
  induction s with
  | nil => exact Nat.le_refl _
  | cons b s ih => have := writB_len (b.toNat : Int); simp only [flatB, List.length_append, List.length_cons]; omega
theorem loop52 (F : Nat) {R : Type} (s : List UInt8) (K : Ex → St → Option R) (hs : s.length ≤ 1000000) :
    ∀ (m : Nat) (i : Int) (out : List UInt8), 0 ≤ i → i ≤ s.length → out.length ≤ 4 * i + 1 → (s.length - i).toNat < m →
      loopK (pcodeK (ctx F [(82, .pure S82)]) noL (lp Tryd.f52 0)) 0 (allBut 20 [0, 3, 4] ++ temps (lp Tryd.f52 0)) (allBut 20 [0, 3]) m
        ⟨slots 20 [(0, .d (.str s)), (3, .d (.str out)), (4, .d (.int .i64 i))], []⟩ K =
      K (.exit 0) ⟨slots 20 [(0, .d (.str s)), (3, .d (.str (out ++ flatB (s.drop i.toNat))))], []⟩ := by
  intro m
  induction m with
  | zero => intro i out _ _ _ hm; omega
  | succ m ih =>
    intro i out h0 h1 h2 hm
    rw [loopK_succ, round52_0]
    simp only [Tr.run, rnd, chr_fold]
    by_cases hk : i < s.length
    · have c0 := chr_nonneg s i
      have c1 := chr_lt s i
      have w : IntKind.i64.wrap (chr s i) = chr s i := wrap64 (by omega) (by omega)
      have w1 : IntKind.i64.wrap (i + 1) = i + 1 := wrap64 (by omega) (by omega)
      have wl := writB_len (chr s i)
      have hd : s.drop i.toNat = s.getD i.toNat 0 :: s.drop (i + 1).toNat := by
        rw [List.drop_eq_getElem_cons (show i.toNat < s.length by omega), show (i + 1).toNat = i.toNat + 1 by omega]
        simp [List.getD_eq_getElem?_getD, show i.toNat < s.length by omega]
      have hf : flatB (s.drop i.toNat) = writB (chr s i) ++ flatB (s.drop (i + 1).toNat) := by rw [hd]; rfl
      rw [cnd_p hk, chk_p h0, chk_p (by omega), w, w1, chk_t (by simp only [Bool.and_eq_true, decide_eq_true_eq]; omega), chk_p (by omega), ih (i + 1) _ (by omega) (by omega) (by rw [List.length_append]; omega) (by omega), hf, List.append_assoc]
    · have : s.drop i.toNat = [] := List.drop_eq_nil_of_le (by omega)
      rw [cnd_n hk, this]
      simp only [flatB, List.append_nil]
theorem lps52 (F : Nat) (hF : F = FU) : LpsOk (ctx F [(82, .pure S82)]) L52 (loopsOf (body Tryd.f52)) := by
  refine lps_one (c := lp Tryd.f52 0) rfl (by kernel_rfl) fun R st K r h => ?_
  unfold T52 at h
  cases hs : shape 20 [0, 3, 4] st.slots with
  | false => rw [hs] at h; simp [Tr.run] at h
  | true =>
  rw [hs] at h
  simp only [cond_true] at h
  have he := shape_eq hs
  obtain ⟨sl0, H⟩ := st
  dsimp only at h he ⊢
  split at h
  · rename_i s out i g0 g1 g2
    simp only [List.map_cons, List.map_nil, g0, g1, g2] at he
    subst he
    simp only [Tr.run] at h
    cases hc : (decide (0 ≤ i) && decide (i ≤ s.length) && decide (s.length ≤ big) && decide (out.length ≤ 4 * i + 1)) with
    | false => rw [hc] at h; simp at h
    | true =>
    rw [hc] at h
    simp only [Bool.and_eq_true, decide_eq_true_eq] at hc
    obtain ⟨⟨⟨h0, h1⟩, h2⟩, h3⟩ := hc
    unfold big at h2
    exact (loop52 F s K h2 F i out h0 h1 h3 (by rw [hF]; unfold FU; omega)).trans h
  · simp [Tr.run] at h
theorem ok52 (W0 : World) : EKOk Tryd.prog W0 52 (.pure S52) := by
  refine pure_of (tyOk FU [(82, .pure S82)]) (look_ok (all_cons (ok82 W0) all_nil)) mixed fn52 (lps52 FU rfl) fun args r h => ?_
  unfold S52 at h
  split at h
  · rename_i s
    refine (run52 FU s).trans ?_
    rw [← h]
    simp only [Tr.val_chk, chk_some, decide_eq_true_eq] at h
    have h0 := h.1
    have hb : s.length ≤ 1000000 := h0
    have hf := flatB_len s
    have e : List.drop (Int.toNat 0) s = s := rfl
    simp only [Tr.val_ok, Tr.val_chk, e]
    rw [chk_p h0, chk_t (by simp [h0]), chk_p (by simp only [List.length_append, List.length_singleton]; omega)]
    rfl
  · simp [Tr.val_no] at h
theorem loop29 (F : Nat) {R : Type} (s : List UInt8) (K : Ex → St → Option R) (hs : s.length ≤ 1000000) :
    ∀ (m k : Nat) (n : Int), k ≤ s.length → 0 ≤ n → n ≤ k → s.length - k < m →
      loopK (pcodeK (ctx F [(61, .pure S61)]) noL (lp Tryd.f29 0)) 0 (allBut 21 [0, 3, 4] ++ temps (lp Tryd.f29 0)) (allBut 21 [0, 2, 3]) m
        ⟨slots 21 [(0, .d (.str s)), (3, .d (.int .i64 n)), (4, .d (.int .i64 k))], []⟩ K =
      PS.cnd (eachR s m k).1
        (K (.exit 0) ⟨slots 21 [(0, .d (.str s)), (3, .d (.int .i64 (n + (eachR s m k).2.2.length)))], []⟩)
        (K .ret ⟨slots 21 [(0, .d (.str s)), (2, .d (.int .i64 (-1))), (3, .d (.int .i64 (n + (eachR s m k).2.2.length)))], []⟩) := by
  intro m
  induction m with
  | zero => intro k n _ _ _ hm; omega
  | succ m ih =>
    intro k n hk h0 h1 hm
    rw [loopK_succ, round29_0]
    simp only [Tr.run, rnd]
    by_cases hlt : k < s.length
    · rw [cnd_p (by omega), chk_t (lim_ok (by omega) (by omega))]
      have wn : IntKind.i64.wrap (n + 1) = n + 1 := wrap64 (by omega) (by omega)
      by_cases hw : width s k = 0
      · have hg : eachR s (m + 1) k = (false, k, []) := by simp only [eachR, if_pos hlt, if_pos hw]
        rw [cnd_p hw, hg]
        simp only [cnd_ff, List.length_nil, Int.natCast_zero, Int.add_zero]
        rfl
      · have hd : width s k = ((dec s k).2 : Int) ∧ k + (dec s k).2 ≤ s.length ∧ 1 ≤ (dec s k).2 := by
          rcases dec_cases s k hlt with ⟨hb, hd, hw'⟩ | ⟨hb, hd, hw'⟩ | ⟨hb, _, h2, h3, hw'⟩
          · rw [hd, hw']; simp; omega
          · exact absurd hw' hw
          · rw [hw']; omega
        obtain ⟨d1, d2, d3⟩ := hd
        have wk : IntKind.i64.wrap ((k : Int) + width s k) = ((k + (dec s k).2 : Nat) : Int) := by rw [d1]; exact (wrap64 (by omega) (by omega)).trans (by omega)
        have e1 : eachR s (m + 1) k = ((eachR s m (k + (dec s k).2)).1, (eachR s m (k + (dec s k).2)).2.1, ((dec s k).1 : Int) :: (eachR s m (k + (dec s k).2)).2.2) := by simp only [eachR, if_pos hlt, if_neg hw]
        have e2 : n + 1 + ((eachR s m (k + (dec s k).2)).2.2.length : Int) = n + ((((dec s k).1 : Int) :: (eachR s m (k + (dec s k).2)).2.2).length : Int) := by rw [List.length_cons]; omega
        rw [cnd_n hw, wn, wk, ih (k + (dec s k).2) (n + 1) d2 (by omega) (by omega) (by omega), e1, e2]
    · have hg : eachR s (m + 1) k = (true, k, []) := by simp only [eachR, if_neg hlt]
      rw [cnd_n (by omega), hg]
      simp only [cnd_tt, List.length_nil, Int.natCast_zero, Int.add_zero]
theorem lps29 (F : Nat) (hF : F = FU) : LpsOk (ctx F [(61, .pure S61)]) L29 (loopsOf (body Tryd.f29)) := by
  refine lps_one (c := lp Tryd.f29 0) rfl (by kernel_rfl) fun R st K r h => ?_
  unfold T29 at h
  cases hs : shape 21 [0, 3, 4] st.slots with
  | false => rw [hs] at h; simp [Tr.run] at h
  | true =>
  rw [hs] at h
  simp only [cond_true] at h
  have he := shape_eq hs
  obtain ⟨sl0, H⟩ := st
  dsimp only at h he ⊢
  split at h
  · rename_i s n a g0 g1 g2
    simp only [List.map_cons, List.map_nil, g0, g1, g2] at he
    subst he
    simp only [Tr.run] at h
    cases hc : (decide (0 ≤ a) && decide (a ≤ s.length) && decide (s.length ≤ big) && decide (0 ≤ n) && decide (n ≤ a)) with
    | false => rw [hc] at h; simp at h
    | true =>
    rw [hc] at h
    simp only [Bool.and_eq_true, decide_eq_true_eq] at hc
    obtain ⟨⟨⟨⟨h0, h1⟩, h2⟩, h3⟩, h4⟩ := hc
    unfold big at h2
    obtain ⟨k, rfl⟩ := Int.eq_ofNat_of_zero_le h0
    refine (loop29 F s K h2 F k n (by omega) h3 h4 (by rw [hF]; unfold FU; omega)).trans ?_
    rw [← h, hF]
    rfl
  · simp [Tr.run] at h
theorem ok29 (W0 : World) : EKOk Tryd.prog W0 29 (.pure S28) := by
  refine pure_of (tyOk FU [(61, .pure S61)]) (look_ok (all_cons (ok61 W0) all_nil)) mixed fn29 (lps29 FU rfl) fun args r h => ?_
  unfold S28 at h
  split at h
  · rename_i s
    refine (run29 FU s).trans ?_
    rw [← h]
    simp only [Tr.val_chk, chk_some, decide_eq_true_eq] at h
    have h0 := h.1
    simp only [Tr.val_ok, Tr.val_cnd, Tr.val_chk, Int.zero_add]
    rw [chk_p h0, chk_t (by simp [h0])]
    unfold runesN okR runesR
    have e : Int.toNat 0 = 0 := rfl
    rw [e]
    cases (eachR s FU 0).1 <;> rfl
  · simp [Tr.val_no] at h
theorem runesN_iff (s : List UInt8) : (runesN s ≥ 0) ↔ okR s = true := by
  have hl : (0 : Int) ≤ (runesR s).length := by omega
  unfold runesN; split <;> simp_all
theorem ok50 (W0 : World) : EKOk Tryd.prog W0 50 (.pure S50) := by
  refine pure_of (tyOk 0 [(29, .pure S28)]) (look_ok (all_cons (ok29 W0) all_nil)) mixed fn50 (lpsOk_no _ _) fun args r h => ?_
  unfold S50 at h
  split at h
  · rename_i k n s
    refine (run50 0 k n s).trans ?_
    rw [← h]
    simp only [Tr.val_chk, chk_some, decide_eq_true_eq] at h
    have hr := runesN_iff s
    have h40 : ((s.length : Int) ≤ 40) ↔ s.length ≤ 40 := by omega
    have hd : decide (runesN s ≥ 0) = okR s := by rw [Bool.eq_iff_iff, decide_eq_true_eq]; exact hr
    simp only [Tr.val_ok, Tr.val_cnd, Tr.val_chk, cnd_i, chk_i, decide_eq_true_eq, hd, h40, h.1, rightR]
    by_cases c1 : k = 1 <;> by_cases c2 : s = [] <;> by_cases c3 : k = 2 <;> by_cases c4 : n = 0 <;> by_cases c5 : s.length ≤ 40 <;> simp [c1, c2, c3, c4, c5] <;> simp_all
  · simp [Tr.val_no] at h
theorem ok24 (W0 : World) : EKOk Tryd.prog W0 24 (.pure S24) := by
  refine pure_of (tyOk 0 [(29, .pure S28), (52, .pure S52)]) (look_ok (all_cons (ok29 W0) (all_cons (ok52 W0) all_nil))) mixed fn24 (lpsOk_no _ _) fun args r h => ?_
  unfold S24 at h
  split at h
  · rename_i s
    refine (run24 0 s).trans ?_
    rw [← h]
    simp only [Tr.val_chk, chk_some, decide_eq_true_eq] at h
    have hr := runesN_iff s
    simp only [Tr.val_ok, Tr.val_cnd, Tr.val_chk]
    simp only [chk_p h.1]
    cases ho : okR s with
    | true => rw [ho] at hr; rw [cnd_n (by have := hr.2 rfl; omega), cnd_tt]
    | false => rw [ho] at hr; rw [cnd_p (by rcases Int.lt_or_le (runesN s) 0 with h | h; exact h; exact absurd (hr.1 h) (by simp)), cnd_ff]
  · simp [Tr.val_no] at h
end Go.PS
end

section
namespace Go.PS
open Go.Proofs
theorem decD (u : Nat) : Lib.decDigits u = if u < 10 then [UInt8.ofNat (48 + u)] else Lib.decDigits (u / 10) ++ [UInt8.ofNat (48 + u % 10)] := by
  rw [Lib.decDigits]
  split <;> rfl
theorem itoa_small (n : Int) (h0 : 0 ≤ n) (h1 : n < 10) : Lib.itoa n = [UInt8.ofNat (48 + n).toNat] := by
  unfold Lib.itoa
  rw [if_neg (by omega), decD, if_pos (by omega)]
  congr 2; omega
theorem itoa_nsmall (n : Int) (h0 : n < 0) (h1 : n > -10) : Lib.itoa n = 45 :: Lib.itoa (-n) := by
  unfold Lib.itoa
  rw [if_pos h0, if_neg (by omega)]
  congr 2; omega
theorem itoa_pos (n : Int) (h : 10 ≤ n) : Lib.itoa n = Lib.itoa (n / 10) ++ Lib.itoa (n % 10) := by
  rw [itoa_small (n % 10) (by omega) (by omega)]
  unfold Lib.itoa
  rw [if_neg (by omega), if_neg (by omega), decD, if_neg (by omega)]
  congr 2
  · congr 1; omega
  · congr 1; omega
theorem itoa_neg' (n : Int) (h : n ≤ -10) : Lib.itoa n = Lib.itoa (-((-n) / 10)) ++ Lib.itoa ((-n) % 10) := by
  rw [itoa_small ((-n) % 10) (by omega) (by omega)]
  unfold Lib.itoa
  rw [if_pos (by omega), if_pos (by omega), decD, if_neg (by omega), List.cons_append]
  congr 3
  · congr 1; omega
  · congr 1; omega
theorem tdiv10 (n : Int) : n.tdiv 10 = if n < 0 then -((-n) / 10) else n / 10 := by
  split
  · have : n = -(-n) := by omega
    rw [this, Int.neg_tdiv, tdiv_nn (by omega)]; congr 1; congr 1; omega
  · exact tdiv_nn (by omega)
theorem tmod10 (n : Int) : n.tmod 10 = if n < 0 then -((-n) % 10) else n % 10 := by
  split
  · have : n = -(-n) := by omega
    rw [this, Int.neg_tmod, tmod_nn (by omega)]; congr 1; congr 1; omega
  · exact tmod_nn (by omega)
theorem dOk_small (k : Nat) (hk : k < 19) (n : Int) (h0 : 0 ≤ n) (h1 : n < 10) : dOk k n = true := by
  cases k with
  | zero => simp [dOk, h0, h1]
  | succ k =>
    have : 10 ≤ 10 ^ (k + 1) := by rw [Nat.pow_succ]; have := Nat.one_le_two_pow (n := 0); have : 1 ≤ 10 ^ k := Nat.one_le_iff_ne_zero.2 (by simp); omega
    simp only [dOk, Bool.and_eq_true, decide_eq_true_eq]; omega
theorem dOk_div (k : Nat) (n m : Int) (h : dOk (k + 1) n = true) (h1 : 10 ≤ n.natAbs) (hm : m.natAbs = n.natAbs / 10) : dOk k m = true := by
  simp only [dOk, Bool.and_eq_true, decide_eq_true_eq] at h
  cases k with
  | zero => simp at h; omega
  | succ k =>
    simp only [dOk, Bool.and_eq_true, decide_eq_true_eq]
    have := h.1
    rw [Nat.pow_succ] at this
    exact ⟨by rw [hm]; omega, by omega⟩
theorem decD_len : ∀ (k u : Nat), 1 ≤ k → u < 10 ^ k → (Lib.decDigits u).length ≤ k
  | 0, _, h, _ => by omega
  | k + 1, u, _, h => by
    rw [decD]
    split
    · simp
    · rename_i hu
      cases k with
      | zero => simp at h; omega
      | succ k =>
        have := decD_len (k + 1) (u / 10) (by omega) (by rw [Nat.pow_succ] at h; omega)
        simp only [List.length_append, List.length_singleton]; omega
theorem itoa_len20 (n : Int) (h : n.natAbs < 10000000000000000000) : (Lib.itoa n).length ≤ 20 := by
  have := decD_len 19 n.natAbs (by omega) (by omega)
  unfold Lib.itoa
  split
  · simp; omega
  · have e : n.toNat = n.natAbs := by omega
    rw [e]; omega
theorem ok51 (W0 : World) : ∀ k, EKOk Tryd.prog W0 51 (.pure (S51 k)) := by
  intro k
  induction k with
  | zero =>
    refine pure_of (tyOk 0 []) (look_ok all_nil) mixed fn51 (lpsOk_no _ _) fun args r h => ?_
    unfold S51 at h
    split at h
    · rename_i n
      refine (run51 0 n).trans ?_
      rw [← h]
      simp only [Tr.val_chk, chk_some, dOk, Bool.and_eq_true, decide_eq_true_eq] at h
      obtain ⟨h0, h1⟩ := h.1
      have w : IntKind.i64.wrap (48 + n) = 48 + n := wrap64 (by omega) (by omega)
      have w8 : IntKind.u8.wrap (48 + n) = 48 + n := wrap8 (by omega) (by omega)
      have e0 : ∀ z : DV, bytesOf (fillS (rep 1 z) [(0, DV.int .u8 (48 + n))]) = [UInt8.ofNat (48 + n).toNat] := fun _ => rfl
      simp only [Tr.val_ok, Tr.val_cnd, Tr.val_chk, w, w8, e0]
      rw [cnd_n (by omega), chk_p h1, chk_t (by simp [dOk, h0, h1]), itoa_small n h0 h1]
    · simp [Tr.val_no] at h
  | succ k ih =>
    refine pure_of (tyOk 0 [(51, .pure (S51 k))]) (look_ok (all_cons ih all_nil)) mixed fn51 (lpsOk_no _ _) fun args r h => ?_
    unfold S51 at h
    split at h
    · rename_i n
      refine (run51_2 0 n k).trans ?_
      rw [← h]
      simp only [Tr.val_chk, chk_some] at h
      have hd := h.1
      have hd' := hd
      simp only [dOk, Bool.and_eq_true, decide_eq_true_eq] at hd'
      obtain ⟨h0, h1⟩ := hd'
      have hp : 10 ^ (k + 1) ≤ 10 ^ 19 := Nat.pow_le_pow_right (by omega) (by omega)
      have hn : n.natAbs < 10000000000000000000 := by omega
      clear h
      have e0 : ∀ z : DV, bytesOf (fillS (rep 1 z) [(0, DV.int .u8 (48 + n))]) = [UInt8.ofNat (48 + n).toNat] := fun _ => rfl
      simp only [Tr.val_ok, Tr.val_cnd, Tr.val_chk, tdiv10, tmod10, hd]
      by_cases c : n < 0
      · simp only [if_pos c]
        have w1 : IntKind.i64.wrap (0 - -(-n % 10)) = -n % 10 := (wrap64 (by omega) (by omega)).trans (by omega)
        have w2 : IntKind.i64.wrap (-(-n / 10)) = -(-n / 10) := wrap64 (by omega) (by omega)
        have s1 : dOk k (-n % 10) = true := dOk_small k (by omega) _ (by omega) (by omega)
        have l1 := itoa_len20 (-n % 10) (by omega)
        have l2 := itoa_len20 (-(-n / 10)) (by omega)
        rw [cnd_p c, w1, w2]
        by_cases c2 : n > -10
        · have e : -n % 10 = -n := by omega
          rw [cnd_p c2, chk_t s1, chk_p (by rw [List.length_singleton]; omega), e, itoa_nsmall n c c2]; rfl
        · have s2 : dOk k (-(-n / 10)) = true := dOk_div k n _ hd (by omega) (by omega)
          rw [cnd_n c2, chk_t s2, chk_t s1, chk_p (by omega), itoa_neg' n (by omega)]; rfl
      · simp only [if_neg c]
        have w2 : IntKind.i64.wrap (n / 10) = n / 10 := wrap64 (by omega) (by omega)
        have l1 := itoa_len20 (n % 10) (by omega)
        have l2 := itoa_len20 (n / 10) (by omega)
        rw [cnd_n c, w2]
        by_cases c2 : n < 10
        · have w : IntKind.i64.wrap (48 + n) = 48 + n := wrap64 (by omega) (by omega)
          have w8 : IntKind.u8.wrap (48 + n) = 48 + n := wrap8 (by omega) (by omega)
          rw [cnd_p c2, w, w8, e0, itoa_small n (by omega) c2]; rfl
        · have s1 : dOk k (n % 10) = true := dOk_small k (by omega) _ (by omega) (by omega)
          have s2 : dOk k (n / 10) = true := dOk_div k n _ hd (by omega) (by omega)
          rw [cnd_n c2, chk_t s2, chk_t s1, chk_p (by omega), itoa_pos n (by omega)]; rfl
    · simp [Tr.val_no] at h

theorem ok22 (W0 : World) : EKOk Tryd.prog W0 22 (.pure S22) := by
  refine pure_of (tyOk 0 [(50, .pure S50), (51, .pure (S51 19)), (52, .pure S52)]) (look_ok (all_cons (ok50 W0) (all_cons (ok51 W0 19) (all_cons (ok52 W0) all_nil)))) mixed fn22 (lpsOk_no _ _) fun args r h => ?_
  unfold S22 at h
  split at h
  · rename_i k n s
    refine (run22 0 k n s).trans ?_
    rw [← h]
    simp only [Tr.val_chk, chk_some, Bool.and_eq_true, decide_eq_true_eq] at h
    obtain ⟨⟨h0, h1⟩, h2⟩ := h.1
    clear h
    have hd : dOk 19 n = true := by simp only [dOk, Bool.and_eq_true, decide_eq_true_eq]; omega
    simp only [Tr.val_ok, Tr.val_cnd, Tr.val_chk, hd]
    rw [chk_t (b := decide (s.length ≤ big) && decide (-9223372036854775808 ≤ n) && decide (n ≤ 9223372036854775807)) (by simp [h0, h1, h2])]
    simp only [chk_p h0]
    cases rightR k n s <;> rfl
  · simp [Tr.val_no] at h
end Go.PS
end
