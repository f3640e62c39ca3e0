/- A part of the proof of the claim (the pure semantics PS and the contracts of the functions over it). -/
import Derived.Test.YtcjcppnclfbjpaaGreatDoorU0
import Derived.Test.YtcjcppnclfbjpaaGreatDoorU1
import Derived.Test.YtcjcppnclfbjpaaGreatDoorU2
import Derived.Test.YtcjcppnclfbjpaaGreatDoorU3
import Derived.Test.YtcjcppnclfbjpaaGreatDoorU4
set_option linter.all false
section
namespace Go.PS
open Go.Proofs
set_option linter.all false
def S125 (B:Nat):List PV → Tr PV
  | [.d (.slc 2 l),.d (.agg [.int .i64 sk,.int .i64 k,.str c,.int .i64 vk,.int .i64 vn,.str vs,.slc 7 L,.int .i64 p,.slc 3 cols,.slc 3 bys,.int .i64 m,.int .i64 sp])] => .chk (l.all (okCn big) && decide (l.length ≤ big) && cols.all (okCol B) && bys.all (okCol B) && decide (cols.length ≤ B) && decide (bys.length ≤ B) && decide (B ≤ 999999))
      (.ok (.tup [.own 2 (gatherG l cols bys sk).1,.d (mkW (gatherG l cols bys sk).2)]))
  | _ => .no
def lentG (l:List DV) (s:DV):Bool:=decide (cI s 0 = 1) || decide (cI s 0 = 3) || decide (cI s 0 = 4)
def S58 (B n:Nat):List PV → Tr PV
  | [.d (.slc 2 l),.d v] => .chk (l.all (okCn big) && decide (l.length ≤ big) && okStep B n v && decide (B ≤ 999999))
      (.ok (.tup [.d (.slc 2 (stepG n l v).1),.d (mkW (stepG n l v).2)]))
  | _ => .no
def S58x (B n:Nat):List PV → Tr PV
  | [.d (.slc 2 l),.d v] => .chk (l.all (okCn big) && decide (l.length ≤ big) && okStep B n v && decide (B ≤ 999999))
      (.cnd (lentG l v) (.ok (.tup [.d (.slc 2 (stepG n l v).1),.d (mkW (stepG n l v).2)])) (.ok (.tup [.own 2 (stepG n l v).1,.d (mkW (stepG n l v).2)])))
  | _ => .no
def S24 (B n:Nat):List PV → Tr PV
  | [.d (.slc 2 l),.d v] => .chk (l.all (okCn big) && decide (l.length ≤ big) && okStep B n v && decide (B ≤ 999999))
      (.ok (.tup [.own 2 (stepTy n l v).1,.d (.int .i64 (stepTy n l v).2.1),.d (.int .i64 (stepTy n l v).2.2)]))
  | _ => .no
def colsOf (k:Int) (l:List DV):List DV:=if k = 9 then l else srcC k
def S15 (B n:Nat):List PV → Tr PV
  | [.d (.slc 2 l),.d (.agg [.int .i64 k,.int .i64 f,.int .i64 t,.str path,.str name,.str b,.int .i64 c,.bool a,.int .i64 ti,.int .i64 p1,.str b2,.int .i64 cm2,.bool a2,.int .i64 ti2,.int .i64 p2,.int .i64 p3,.slc 12 steps])] => .chk (l.all (okCn big) && decide (l.length ≤ big) && steps.all (okStep B n) && decide (steps.length ≤ big) && decide (B ≤ 999999) && lensQ big path name b b2)
      (.ok (.tup [.own 2 (queryG n (rightQ n k f t path name b c a ti b2 cm2 a2 ti2 steps) steps (colsOf k l)).1,.d (.int .i64 (queryG n (rightQ n k f t path name b c a ti b2 cm2 a2 ti2 steps) steps (colsOf k l)).2.1),.d (.int .i64 (queryG n (rightQ n k f t path name b c a ti b2 cm2 a2 ti2 steps) steps (colsOf k l)).2.2)]))
  | _ => .no
def foldP (n:Nat):List DV → List DV → List DV × Int × Int
  | [],l => (l,0,0)
  | s :: r,l => if (stepG n l s).2.2 ≠ 0 then (l,(stepG n l s).2) else foldP n r (stepG n l s).1
theorem fold_P (n:Nat):∀ (steps l:List DV),foldG n steps l = if (foldP n steps l).2.2 ≠ 0 then ([],(foldP n steps l).2) else foldP n steps l:=by
  intro steps
  induction steps with
  | nil => intro l; rfl
  | cons s r ih =>
    intro l
    unfold foldG foldP
    split
    · rfl
    · exact ih _
theorem foldP_drop {n:Nat} {xs l:List DV} {i:Int} (h0:0 ≤ i) (h:i < xs.length):foldP n (xs.drop i.toNat) l = if (stepG n l (gt .nili xs i.toNat)).2.2 ≠ 0 then (l,(stepG n l (gt .nili xs i.toNat)).2) else foldP n (xs.drop (i + 1).toNat) (stepG n l (gt .nili xs i.toNat)).1:=by
  rw [drop_gt h0 h]; rfl
theorem foldP_zero (n:Nat):∀ (steps l:List DV),(foldP n steps l).2.2 = 0 → foldP n steps l = ((foldP n steps l).1,0,0):=by
  intro steps
  induction steps with
  | nil => intro l _; rfl
  | cons s r ih =>
    intro l h
    unfold foldP at h ⊢
    split at h
    · rename_i q; exact absurd h q
    · rename_i q; rw [if_neg q]; exact ih _ h
theorem step_cn {B n:Nat} {l:List DV} {s:DV} (hl:l.all (okCn big) = true) (hb:l.length ≤ big) (hs:okStep B n s = true) (hB:B ≤ 999999):(stepG n l s).1.all (okCn big) = true ∧ (stepG n l s).1.length ≤ big:=by
  obtain ⟨sk,k,c,vk,vn,vs,L,p,cols,bys,m,sp,rfl,h1,h2,h3,h4,h5,h6⟩:=okStep_inv hs
  have e8:cL (.agg [.int .i64 sk,.int .i64 k,.str c,.int .i64 vk,.int .i64 vn,.str vs,.slc 7 L,.int .i64 p,.slc 3 cols,.slc 3 bys,.int .i64 m,.int .i64 sp]) 8 = cols:=rfl
  have e9:cL (.agg [.int .i64 sk,.int .i64 k,.str c,.int .i64 vk,.int .i64 vn,.str vs,.slc 7 L,.int .i64 p,.slc 3 cols,.slc 3 bys,.int .i64 m,.int .i64 sp]) 9 = bys:=rfl
  unfold stepG
  rw [e8,e9]
  (repeat' split)
  · exact ⟨hl,hb⟩
  · have:=named_len (l:=l) (once:=true) cols []
    simp only [List.length_nil,Nat.zero_add] at this
    exact ⟨named_cn hl _ _ rfl,by unfold big; omega⟩
  · exact ⟨hl,hb⟩
  · exact ⟨hl,hb⟩
  · generalize cI (.agg [.int .i64 sk,.int .i64 k,.str c,.int .i64 vk,.int .i64 vn,.str vs,.slc 7 L,.int .i64 p,.slc 3 cols,.slc 3 bys,.int .i64 m,.int .i64 sp]) 0 = q
    have a:=named_len (l:=l) (once:=false) bys []
    have b:=named_cn (l:=l) (once:=false) hl bys [] rfl
    simp only [List.length_nil,Nat.zero_add] at a
    have d:∀ x,okCn big (gatheredC q x) = true:=fun x => by
      unfold gatheredC
      split
      · rfl
      · split
        · rfl
        · split
          · rfl
          · rfl
    unfold gatherG
    (repeat' split)
    · exact ⟨rfl,by simp⟩
    · exact ⟨rfl,by simp⟩
    · exact ⟨rfl,by simp⟩
    · exact ⟨rfl,by simp⟩
    · refine ⟨?_,?_⟩
      · rw [List.all_append,b]; simpa using d _
      · simp only [List.length_append,List.length_singleton]; unfold big; omega
theorem foldP_cn {B n:Nat} (hB:B ≤ 999999):∀ {steps l:List DV},steps.all (okStep B n) = true → l.all (okCn big) = true → l.length ≤ big → (foldP n steps l).1.length ≤ big:=by
  intro steps
  induction steps with
  | nil => intro l _ _ h; exact h
  | cons s r ih =>
    intro l hs a b
    simp only [List.all_cons,Bool.and_eq_true] at hs
    unfold foldP
    split
    · exact b
    · have:=step_cn a b hs.1 hB
      exact ih hs.2 this.1 this.2
theorem ok123 (W0:World) (hW:Laid W0) (B:Nat):∀ kk,EKOk Tryz.prog W0 123 (.pure (S123 B kk)):=by
  intro kk
  induction kk with
  | zero => exact ek_void W0 fn123 (S123_zero B)
  | succ kk ih => exact ok123s W0 hW B kk ih
theorem pure_eq {P:Program} {W0:World} {f:Nat} {S S' : List PV → Tr PV} (h:EKOk P W0 f (.pure S)) (hs:∀ args,(S' args).val = (S args).val):EKOk P W0 f (.pure S') :=
  ⟨h.enters,fun args v hv o sig w xs g1 g2 g3 => h.calls args v ((hs args).symm.trans hv) o sig w xs g1 g2 g3⟩
def S20c:List PV → Tr PV
  | [.d (.slc 2 l)] => .chk (l.all (okCn big) && decide (l.length ≤ big)) (.cnd (rightC l) (.ok (.d (.int .i64 0))) (.ok (.d (.int .i64 2))))
  | _ => .no
theorem S20c_eq (args:List PV):(S20c args).val = (S20 args).val:=by
  unfold S20c S20
  split
  · rename_i l
    simp only [Tr.val_chk,Tr.val_cnd,Tr.val_ok]
    cases rightC l <;> rfl
  · rename_i h
    first
      | rfl
      | (split
         · exact (h _ rfl).elim
         · rfl)
theorem ok20c (W0:World) (hW:Laid W0):EKOk Tryz.prog W0 20 (.pure S20c):=pure_eq (ok20 W0 hW) S20c_eq
def S31c (B n:Nat):List PV → Tr PV
  | [.d (.agg [.int .i64 k,.int .i64 f,.int .i64 t,.str path,.str name,.str b,.int .i64 c,.bool a,.int .i64 ti,.int .i64 p1,.str b2,.int .i64 cm2,.bool a2,.int .i64 ti2,.int .i64 p2,.int .i64 p3,.slc 12 steps])] => .chk (steps.all (okStep B n) && decide (steps.length ≤ big) && decide (B ≤ big) && lensQ big path name b b2) (.cnd (rightQ n k f t path name b c a ti b2 cm2 a2 ti2 steps) (.ok (.d (.int .i64 0))) (.ok (.d (.int .i64 2))))
  | _ => .no
theorem ok31c (W0:World) (hW:Laid W0) (B n:Nat):EKOk Tryz.prog W0 31 (.pure (S31c B n)):=pure_eq (ok31 W0 hW B n) fun args => by
  unfold S31c S31
  split
  · rename_i k f t path name b c a ti p1 b2 cm2 a2 ti2 p2 p3 steps
    simp only [Tr.val_chk,Tr.val_cnd,Tr.val_ok]
    cases rightQ n k f t path name b c a ti b2 cm2 a2 ti2 steps <;> rfl
  · rename_i h
    first
      | rfl
      | (split
         · exact (h _ _ _ _ _ _ _ _ _ _ _ _ _ _ _ _ _ rfl).elim
         · rfl)
theorem gath_can (k f:Int):DV.agg [DV.str (cS (gatheredC k f) 0),DV.int IntKind.i64 (cI (gatheredC k f) 1)] = gatheredC k f:=by
  unfold gatheredC
  (repeat' split) <;> rfl
def T15_0 (B n:Nat) (st:St):Tr (Ex × St) :=
  bif shape 50 [0,27,28,29] st.slots then
    match gt .undef st.slots 0,gt .undef st.slots 27,gt .undef st.slots 28,gt .undef st.slots 29,st.heap with
    | .d (.slc 2 l),.d (.slc 12 sts),.d (.int .i64 len),.d (.int .i64 i),[.cells [.d (.int .i64 k),.d (.int .i64 f),.d (.int .i64 t),.d (.str path),.d (.str name),.d (.str b),.d (.int .i64 c),.d (.bool a),.d (.int .i64 ti),.d (.int .i64 p1),.d (.str b2),.d (.int .i64 cm2),.d (.bool a2),.d (.int .i64 ti2),.d (.int .i64 p2),.d (.int .i64 p3),.d (.slc 12 steps)]] =>
      .chk (decide (len = sts.length) && decide (sts.length ≤ big) && decide (sts.all (okStep B n) = true) && decide (B ≤ 999999) && decide (l.all (okCn big) = true) && decide (l.length ≤ big) && decide (0 ≤ i) && decide (i ≤ sts.length)) (.cnd (decide ((foldP n (sts.drop i.toNat) l).2.2 = 0)) (.ok (.exit 0,⟨slots 50 [(0,.d (.slc 2 (foldP n (sts.drop i.toNat) l).1))],[.cells [.d (.int .i64 k),.d (.int .i64 f),.d (.int .i64 t),.d (.str path),.d (.str name),.d (.str b),.d (.int .i64 c),.d (.bool a),.d (.int .i64 ti),.d (.int .i64 p1),.d (.str b2),.d (.int .i64 cm2),.d (.bool a2),.d (.int .i64 ti2),.d (.int .i64 p2),.d (.int .i64 p3),.d (.slc 12 steps)]]⟩)) (.ok (.ret,⟨slots 50 [(0,.d (.slc 2 (foldP n (sts.drop i.toNat) l).1)),(4,.own 2 []),(5,.d (.int .i64 (foldP n (sts.drop i.toNat) l).2.1)),(6,.d (.int .i64 (foldP n (sts.drop i.toNat) l).2.2))],[.cells [.d (.int .i64 k),.d (.int .i64 f),.d (.int .i64 t),.d (.str path),.d (.str name),.d (.str b),.d (.int .i64 c),.d (.bool a),.d (.int .i64 ti),.d (.int .i64 p1),.d (.str b2),.d (.int .i64 cm2),.d (.bool a2),.d (.int .i64 ti2),.d (.int .i64 p2),.d (.int .i64 p3),.d (.slc 12 steps)]]⟩)))
    | _,_,_,_,_ => .no
  else .no
def L15 (B n:Nat):Lps:=fun i => bif Nat.beq i 6 then some (allBut 50 [0,27,28,29],allBut 50 [0,4,5,6],T15_0 B n) else none
end Go.PS
end

section
namespace Go.PS
open Go.Proofs
set_option maxRecDepth 100000
theorem fn125:FnOk Tryz.prog 125 73 [.tmp 4,.cell 5 110] (body Tryz.f125):=⟨Tryz.f125,Tryz.func125,bodySome _ (by kernel_rfl),by kernel_rfl,by kernel_rfl,by kernel_rfl,by kernel_rfl⟩
theorem run125 (F:Nat) (B:Nat) (l:List DV) (sk k:Int) (c:Str) (vk vn:Int) (vs:Str) (L:List DV) (p:Int) (cols bys:List DV) (m sp:Int):runP
 (ctx F [(124,.pure (S124 B)),(192,.pure S192),(22,.pure S22)]) noL 73 [.tmp 4,.cell 5 110] (body Tryz.f125) [.d (.slc 2 l),.d (.agg [.int .i64 sk,.int
 .i64 k,.str c,.int .i64 vk,.int .i64 vn,.str vs,.slc 7 L,.int .i64 p,.slc 3 cols,.slc 3 bys,.int .i64 m,.int .i64 sp])] = Tr.val (.chk (l.all (okCn
 big) && decide (l.length ≤ big) && cols.all (okCol B) && decide (cols.length ≤ B) && decide (B ≤ big)) (.cnd (decide ((namedG l false cols []).snd.snd = 0))
 (.chk (l.all (okCn big) && decide (l.length ≤ big) && bys.all (okCol B) && decide (bys.length ≤ B) && decide (B ≤ big)) (.cnd (decide ((namedG l false bys
 []).snd.snd = 0)) (.cnd (decide ((↑(namedG l false cols []).fst.length:Int) > 0)) (.chk (decide (Int.toNat 0 < (namedG l false cols []).fst.length)) (.chk
 (fits [.str [],.int .i64 0] (gt DV.nili (namedG l false cols []).fst (Int.toNat 0)).cells) (.cnd (decide (sk = 6)) (.cnd (decide (atI (namedG l false cols
 []).fst (Int.toNat 0) (0 + 1) = 2)) (.chk (decide (Int.toNat 0 < cols.length)) (.chk (fits [.str [],.bool false,.int .i64 0] (gt DV.nili cols (Int.toNat
 0)).cells) (.ok (PV.tup [PV.own 2 [],.d (DV.agg [.int .i64 (atI cols (Int.toNat 0) (0 + 1 + 1)),.int .i64 (12)])])))) (.chk ((namedG l false bys []).fst.all
 (okCn ML) && decide ((namedG l false bys []).fst.length ≤ big)) (.cnd (decide (findC (namedG l false bys []).fst (cS (gatheredC sk (atI (namedG l false cols
 []).fst (Int.toNat 0) (0 + 1))) 0) ≥ 0)) (.chk (decide (Int.toNat 0 < bys.length)) (.chk (fits [.str [],.bool false,.int .i64 0] (gt DV.nili bys (Int.toNat
 0)).cells) (.ok (PV.tup [PV.own 2 [],.d (DV.agg [.int .i64 (atI bys (Int.toNat 0) (0 + 1 + 1)),.int .i64 (7)])])))) (.chk (limit 24 ((namedG l false bys
 []).fst.length + ([DV.agg [.str (cS (gatheredC sk (atI (namedG l false cols []).fst (Int.toNat 0) (0 + 1))) 0),.int .i64 (cI (gatheredC sk (atI (namedG l false
 cols []).fst (Int.toNat 0) (0 + 1))) 1)]]).length)) (.ok (PV.tup [PV.own 2 ((namedG l false bys []).fst ++ [DV.agg [.str (cS (gatheredC sk (atI (namedG l false
 cols []).fst (Int.toNat 0) (0 + 1))) 0),.int .i64 (cI (gatheredC sk (atI (namedG l false cols []).fst (Int.toNat 0) (0 + 1))) 1)]]),.d (DV.agg [.int .i64 (0),
 .int .i64 (0)])])))))) (.chk ((namedG l false bys []).fst.all (okCn ML) && decide ((namedG l false bys []).fst.length ≤ big)) (.cnd (decide (findC (namedG l
 false bys []).fst (cS (gatheredC sk (atI (namedG l false cols []).fst (Int.toNat 0) (0 + 1))) 0) ≥ 0)) (.chk (decide (Int.toNat 0 < bys.length)) (.chk (fits
 [.str [],.bool false,.int .i64 0] (gt DV.nili bys (Int.toNat 0)).cells) (.ok (PV.tup [PV.own 2 [],.d (DV.agg [.int .i64 (atI bys (Int.toNat 0) (0 + 1 + 1)),
 .int .i64 (7)])])))) (.chk (limit 24 ((namedG l false bys []).fst.length + ([DV.agg [.str (cS (gatheredC sk (atI (namedG l false cols []).fst (Int.toNat 0) (0 +
 1))) 0),.int .i64 (cI (gatheredC sk (atI (namedG l false cols []).fst (Int.toNat 0) (0 + 1))) 1)]]).length)) (.ok (PV.tup [PV.own 2 ((namedG l false bys []).fst
 ++ [DV.agg [.str (cS (gatheredC sk (atI (namedG l false cols []).fst (Int.toNat 0) (0 + 1))) 0),.int .i64 (cI (gatheredC sk (atI (namedG l false cols []).fst
 (Int.toNat 0) (0 + 1))) 1)]]),.d (DV.agg [.int .i64 (0),.int .i64 (0)])])))))))) (.cnd (decide (sk = 6)) (.chk ((namedG l false bys []).fst.all (okCn ML) &&
 decide ((namedG l false bys []).fst.length ≤ big)) (.cnd (decide (findC (namedG l false bys []).fst (cS (gatheredC sk 1) 0) ≥ 0)) (.chk (decide (Int.toNat 0 <
 bys.length)) (.chk (fits [.str [],.bool false,.int .i64 0] (gt DV.nili bys (Int.toNat 0)).cells) (.ok (PV.tup [PV.own 2 [],.d (DV.agg [.int .i64 (atI bys
 (Int.toNat 0) (0 + 1 + 1)),.int .i64 (7)])])))) (.chk (limit 24 ((namedG l false bys []).fst.length + ([DV.agg [.str (cS (gatheredC sk 1) 0),.int .i64 (cI
 (gatheredC sk 1) 1)]]).length)) (.ok (PV.tup [PV.own 2 ((namedG l false bys []).fst ++ [DV.agg [.str (cS (gatheredC sk 1) 0),.int .i64 (cI (gatheredC sk 1)
 1)]]),.d (DV.agg [.int .i64 (0),.int .i64 (0)])]))))) (.chk ((namedG l false bys []).fst.all (okCn ML) && decide ((namedG l false bys []).fst.length ≤ big))
 (.cnd (decide (findC (namedG l false bys []).fst (cS (gatheredC sk 1) 0) ≥ 0)) (.chk (decide (Int.toNat 0 < bys.length)) (.chk (fits [.str [],.bool false,.int
 .i64 0] (gt DV.nili bys (Int.toNat 0)).cells) (.ok (PV.tup [PV.own 2 [],.d (DV.agg [.int .i64 (atI bys (Int.toNat 0) (0 + 1 + 1)),.int .i64 (7)])])))) (.chk
 (limit 24 ((namedG l false bys []).fst.length + ([DV.agg [.str (cS (gatheredC sk 1) 0),.int .i64 (cI (gatheredC sk 1) 1)]]).length)) (.ok (PV.tup [PV.own 2
 ((namedG l false bys []).fst ++ [DV.agg [.str (cS (gatheredC sk 1) 0),.int .i64 (cI (gatheredC sk 1) 1)]]),.d (DV.agg [.int .i64 (0),.int .i64 (0)])])))))))
 (.cnd (!decide ((namedG l false bys []).snd.snd = 0)) (.ok (PV.tup [PV.own 2 [],.d (DV.agg [.int .i64 (namedG l false bys []).snd.fst,.int .i64 (namedG l false
 bys []).snd.snd])])) (.cnd (decide ((↑(namedG l false cols []).fst.length:Int) > 0)) (.chk (decide (Int.toNat 0 < (namedG l false cols []).fst.length)) (.chk
 (fits [.str [],.int .i64 0] (gt DV.nili (namedG l false cols []).fst (Int.toNat 0)).cells) (.cnd (decide (sk = 6)) (.cnd (decide (atI (namedG l false cols
 []).fst (Int.toNat 0) (0 + 1) = 2)) (.chk (decide (Int.toNat 0 < cols.length)) (.chk (fits [.str [],.bool false,.int .i64 0] (gt DV.nili cols (Int.toNat
 0)).cells) (.ok (PV.tup [PV.own 2 [],.d (DV.agg [.int .i64 (atI cols (Int.toNat 0) (0 + 1 + 1)),.int .i64 (12)])])))) (.ok (PV.tup [PV.own 2 [DV.agg [.str (cS
 (gatheredC sk (atI (namedG l false cols []).fst (Int.toNat 0) (0 + 1))) 0),.int .i64 (cI (gatheredC sk (atI (namedG l false cols []).fst (Int.toNat 0) (0 + 1)))
 1)]],.d (DV.agg [.int .i64 (0),.int .i64 (0)])]))) (.ok (PV.tup [PV.own 2 [DV.agg [.str (cS (gatheredC sk (atI (namedG l false cols []).fst (Int.toNat 0) (0 +
 1))) 0),.int .i64 (cI (gatheredC sk (atI (namedG l false cols []).fst (Int.toNat 0) (0 + 1))) 1)]],.d (DV.agg [.int .i64 (0),.int .i64 (0)])]))))) (.cnd
 (decide (sk = 6)) (.ok (PV.tup [PV.own 2 [DV.agg [.str (cS (gatheredC sk 1) 0),.int .i64 (cI (gatheredC sk 1) 1)]],.d (DV.agg [.int .i64 (0),.int .i64
 (0)])])) (.ok (PV.tup [PV.own 2 [DV.agg [.str (cS (gatheredC sk 1) 0),.int .i64 (cI (gatheredC sk 1) 1)]],.d (DV.agg [.int .i64 (0),.int .i64 (0)])])))))))
 (.cnd (!decide ((namedG l false cols []).snd.snd = 0)) (.ok (PV.tup [PV.own 2 [],.d (DV.agg [.int .i64 (namedG l false cols []).snd.fst,.int .i64 (namedG l
 false cols []).snd.snd])])) (.chk (l.all (okCn big) && decide (l.length ≤ big) && bys.all (okCol B) && decide (bys.length ≤ B) && decide (B ≤ big)) (.cnd (decide
 ((namedG l false bys []).snd.snd = 0)) (.cnd (decide (sk = 6)) (.chk ((namedG l false bys []).fst.all (okCn ML) && decide ((namedG l false bys []).fst.length ≤
 big)) (.cnd (decide (findC (namedG l false bys []).fst (cS (gatheredC sk 1) 0) ≥ 0)) (.chk (decide (Int.toNat 0 < bys.length)) (.chk (fits [.str [],.bool false,
 .int .i64 0] (gt DV.nili bys (Int.toNat 0)).cells) (.ok (PV.tup [PV.own 2 [],.d (DV.agg [.int .i64 (atI bys (Int.toNat 0) (0 + 1 + 1)),.int .i64 (7)])]))))
 (.chk (limit 24 ((namedG l false bys []).fst.length + ([DV.agg [.str (cS (gatheredC sk 1) 0),.int .i64 (cI (gatheredC sk 1) 1)]]).length)) (.ok (PV.tup [PV.own
 2 ((namedG l false bys []).fst ++ [DV.agg [.str (cS (gatheredC sk 1) 0),.int .i64 (cI (gatheredC sk 1) 1)]]),.d (DV.agg [.int .i64 (0),.int .i64 (0)])])))))
 (.chk ((namedG l false bys []).fst.all (okCn ML) && decide ((namedG l false bys []).fst.length ≤ big)) (.cnd (decide (findC (namedG l false bys []).fst (cS
 (gatheredC sk 1) 0) ≥ 0)) (.chk (decide (Int.toNat 0 < bys.length)) (.chk (fits [.str [],.bool false,.int .i64 0] (gt DV.nili bys (Int.toNat 0)).cells) (.ok
 (PV.tup [PV.own 2 [],.d (DV.agg [.int .i64 (atI bys (Int.toNat 0) (0 + 1 + 1)),.int .i64 (7)])])))) (.chk (limit 24 ((namedG l false bys []).fst.length +
 ([DV.agg [.str (cS (gatheredC sk 1) 0),.int .i64 (cI (gatheredC sk 1) 1)]]).length)) (.ok (PV.tup [PV.own 2 ((namedG l false bys []).fst ++ [DV.agg [.str (cS
 (gatheredC sk 1) 0),.int .i64 (cI (gatheredC sk 1) 1)]]),.d (DV.agg [.int .i64 (0),.int .i64 (0)])])))))) (.cnd (!decide ((namedG l false bys []).snd.snd =
 0)) (.ok (PV.tup [PV.own 2 [],.d (DV.agg [.int .i64 (namedG l false bys []).snd.fst,.int .i64 (namedG l false bys []).snd.snd])])) (.cnd (decide (sk = 6)) (.ok
 (PV.tup [PV.own 2 [DV.agg [.str (cS (gatheredC sk 1) 0),.int .i64 (cI (gatheredC sk 1) 1)]],.d (DV.agg [.int .i64 (0),.int .i64 (0)])])) (.ok (PV.tup [PV.own
 2 [DV.agg [.str (cS (gatheredC sk 1) 0),.int .i64 (cI (gatheredC sk 1) 1)]],.d (DV.agg [.int .i64 (0),.int .i64 (0)])]))))))))):=by kernel_rfl
theorem fn58:FnOk Tryz.prog 58 45 [.tmp 4,.cell 5 110] (body Tryz.f58):=⟨Tryz.f58,Tryz.func58,bodySome _ (by kernel_rfl),by kernel_rfl,by kernel_rfl,by kernel_rfl,by kernel_rfl⟩
theorem run58 (F:Nat) (B n:Nat) (l:List DV) (sk k:Int) (c:Str) (vk vn:Int) (vs:Str) (L:List DV) (p:Int) (cols bys:List DV) (m sp:Int) :
 runP (ctx F [(123,.pure (S123 B n)),(124,.pure (S124 B)),(125,.pure (S125 B))]) noL 45 [.tmp 4,.cell 5 110] (body Tryz.f58) [.d (.slc 2 l),.d (.agg [.int
 .i64 sk,.int .i64 k,.str c,.int .i64 vk,.int .i64 vn,.str vs,.slc 7 L,.int .i64 p,.slc 3 cols,.slc 3 bys,.int .i64 m,.int .i64 sp])] = Tr.val (.cnd
 (decide (sk = 1)) (.chk (l.all (okCn big) && decide (l.length ≤ big) && okC B n (DV.agg [.int .i64 k,.str c,.int .i64 vk,.int .i64 vn,.str vs,.slc 7 L,.int
 .i64 p]) && decide (B ≤ big)) (.ok (PV.tup [.d (.slc 2 l),.d (DV.agg [.int .i64 (whereW l n (DV.agg [.int .i64 k,.str c,.int .i64 vk,.int .i64 vn,.str vs,
 .slc 7 L,.int .i64 p])).fst,.int .i64 (whereW l n (DV.agg [.int .i64 k,.str c,.int .i64 vk,.int .i64 vn,.str vs,.slc 7 L,.int .i64 p])).snd])]))) (.cnd
 (decide (sk = 2)) (.chk (l.all (okCn big) && decide (l.length ≤ big) && cols.all (okCol B) && decide (cols.length ≤ B) && decide (B ≤ big)) (.cnd (decide
 ((namedG l true cols []).snd.snd = 0)) (.ok (PV.tup [PV.own 2 (namedG l true cols []).fst,.d (DV.agg [.int .i64 (0),.int .i64 (0)])])) (.ok (PV.tup [PV.own 2
 [],.d (DV.agg [.int .i64 (namedG l true cols []).snd.fst,.int .i64 (namedG l true cols []).snd.snd])])))) (.cnd (decide (sk = 3)) (.chk (l.all (okCn big) &&
 decide (l.length ≤ big) && cols.all (okCol B) && decide (cols.length ≤ B) && decide (B ≤ big)) (.cnd (decide ((namedG l false cols []).snd.snd = 0)) (.ok (PV.tup
 [.d (.slc 2 l),.d (DV.agg [.int .i64 (0),.int .i64 (0)])])) (.ok (PV.tup [.d (.slc 2 l),.d (DV.agg [.int .i64 (namedG l false cols []).snd.fst,.int .i64
 (namedG l false cols []).snd.snd])])))) (.cnd (decide (sk = 4)) (.ok (PV.tup [.d (.slc 2 l),.d (DV.agg [.int .i64 (0),.int .i64 (0)])])) (.chk (l.all (okCn
 big) && decide (l.length ≤ big) && cols.all (okCol B) && bys.all (okCol B) && decide (cols.length ≤ B) && decide (bys.length ≤ B) && decide (B ≤ 999999)) (.ok
 (PV.tup [PV.own 2 (gatherG l cols bys sk).fst,.d (DV.agg [.int .i64 (gatherG l cols bys sk).snd.fst,.int .i64 (gatherG l cols bys sk).snd.snd])]))))))):=by
 kernel_rfl
theorem fn24:FnOk Tryz.prog 24 37 [.tmp 4,.tmp 5,.tmp 6] (body Tryz.f24):=⟨Tryz.f24,Tryz.func24,bodySome _ (by kernel_rfl),by kernel_rfl,by kernel_rfl,by kernel_rfl,by kernel_rfl⟩
theorem run24 (F:Nat) (B n:Nat) (l:List DV) (sk k:Int) (c:Str) (vk vn:Int) (vs:Str) (L:List DV) (p:Int) (cols bys:List DV) (m sp:Int) :
 runP (ctx F [(20,.pure S20c),(31,.pure (S31c B n)),(58,.pure (S58 B n)),(59,.pure S59)]) noL 37 [.tmp 4,.tmp 5,.tmp 6] (body Tryz.f24) [.d (.slc 2 l),
 .d (.agg [.int .i64 sk,.int .i64 k,.str c,.int .i64 vk,.int .i64 vn,.str vs,.slc 7 L,.int .i64 p,.slc 3 cols,.slc 3 bys,.int .i64 m,.int .i64 sp])] =
 Tr.val (.chk (l.all (okCn big) && decide (l.length ≤ big)) (.cnd (rightC l) (.chk (([DV.agg [.int .i64 sk,.int .i64 k,.str c,.int .i64 vk,.int .i64 vn,.str
 vs,.slc 7 L,.int .i64 p,.slc 3 cols,.slc 3 bys,.int .i64 m,.int .i64 sp]]).all (okStep B n) && decide (([DV.agg [.int .i64 sk,.int .i64 k,.str c,.int
 .i64 vk,.int .i64 vn,.str vs,.slc 7 L,.int .i64 p,.slc 3 cols,.slc 3 bys,.int .i64 m,.int .i64 sp]]).length ≤ big) && decide (B ≤ big) && lensQ big []
 ([118]:List UInt8) [] []) (.cnd (rightQ n 9 0 0 [] ([118]:List UInt8) [] 0 false 0 [] 0 false 0 ([DV.agg [.int .i64 sk,.int .i64 k,.str c,.int .i64 vk,
 .int .i64 vn,.str vs,.slc 7 L,.int .i64 p,.slc 3 cols,.slc 3 bys,.int .i64 m,.int .i64 sp]])) (.chk (l.all (okCn big) && decide (l.length ≤ big) && okStep
 B n (DV.agg [.int .i64 sk,.int .i64 k,.str c,.int .i64 vk,.int .i64 vn,.str vs,.slc 7 L,.int .i64 p,.slc 3 cols,.slc 3 bys,.int .i64 m,.int .i64 sp])
 && decide (B ≤ 999999)) (.cnd (!decide ((stepG n l (DV.agg [.int .i64 sk,.int .i64 k,.str c,.int .i64 vk,.int .i64 vn,.str vs,.slc 7 L,.int .i64 p,.slc 3
 cols,.slc 3 bys,.int .i64 m,.int .i64 sp])).snd.snd = 0)) (.ok (PV.tup [PV.own 2 [],.d (.int .i64 (stepG n l (DV.agg [.int .i64 sk,.int .i64 k,.str c,.int
 .i64 vk,.int .i64 vn,.str vs,.slc 7 L,.int .i64 p,.slc 3 cols,.slc 3 bys,.int .i64 m,.int .i64 sp])).snd.fst),.d (.int .i64 (stepG n l (DV.agg [.int
 .i64 sk,.int .i64 k,.str c,.int .i64 vk,.int .i64 vn,.str vs,.slc 7 L,.int .i64 p,.slc 3 cols,.slc 3 bys,.int .i64 m,.int .i64 sp])).snd.snd)])) (.chk
 (decide (1 ≤ (stepG n l (DV.agg [.int .i64 sk,.int .i64 k,.str c,.int .i64 vk,.int .i64 vn,.str vs,.slc 7 L,.int .i64 p,.slc 3 cols,.slc 3 bys,.int
 .i64 m,.int .i64 sp])).fst.length) && decide ((stepG n l (DV.agg [.int .i64 sk,.int .i64 k,.str c,.int .i64 vk,.int .i64 vn,.str vs,.slc 7 L,.int .i64 p,
 .slc 3 cols,.slc 3 bys,.int .i64 m,.int .i64 sp])).fst.length ≤ big)) (.ok (PV.tup [PV.own 2 (stepG n l (DV.agg [.int .i64 sk,.int .i64 k,.str c,.int .i64
 vk,.int .i64 vn,.str vs,.slc 7 L,.int .i64 p,.slc 3 cols,.slc 3 bys,.int .i64 m,.int .i64 sp])).fst,.d (.int .i64 (0)),.d (.int .i64 (0))]))))) (.ok
 (PV.tup [PV.own 2 [],.d (.int .i64 (0)),.d (.int .i64 (2))])))) (.ok (PV.tup [PV.own 2 [],.d (.int .i64 (0)),.d (.int .i64 (2))])))):=by kernel_rfl
theorem round15_0 (F:Nat) {R:Type} (B n:Nat) (l sts:List DV) (len i:Int) (k f t:Int) (path name b:Str) (c:Int) (a:Bool) (ti p1:Int) (b2 :
 Str) (cm2:Int) (a2:Bool) (ti2 p2 p3:Int) (steps:List DV) (K:Ex → St → Option R) (G:St → Option R):roundK (pcodeK (ctx F [(18,.pure S18),(20,
 .pure S20c),(31,.pure (S31c B n)),(58,.pure (S58 B n)),(59,.pure S59)]) noL (lp Tryz.f15 0)) 1 (allBut 50 [0,27,28,29] ++ temps (lp Tryz.f15 0)) (allBut
 50 [0,4,5,6]) ⟨slots 50 [(0,.d (.slc 2 l)),(27,.d (.slc 12 sts)),(28,.d (.int .i64 len)),(29,.d (.int .i64 i))],[.cells [.d (.int .i64 k),.d (.int
 .i64 f),.d (.int .i64 t),.d (.str path),.d (.str name),.d (.str b),.d (.int .i64 c),.d (.bool a),.d (.int .i64 ti),.d (.int .i64 p1),.d (.str b2),.d
 (.int .i64 cm2),.d (.bool a2),.d (.int .i64 ti2),.d (.int .i64 p2),.d (.int .i64 p3),.d (.slc 12 steps)]]⟩ K G = Tr.run (.cnd (decide (i < len)) (.chk
 (decide (0 ≤ i)) (.chk (decide (i.toNat < sts.length)) (.chk (fits [.int .i64 0,.int .i64 0,.str [],.int .i64 0,.int .i64 0,.str [],.nils 7,.int .i64 0,
 .nils 3,.nils 3,.int .i64 0,.int .i64 0] (gt DV.nili sts i.toNat).cells) (.chk (l.all (okCn big) && decide (l.length ≤ big) && okStep B n (DV.agg [view sts
 i.toNat 0 (.int .i64 0),view sts i.toNat (0 + 1) (.int .i64 0),view sts i.toNat (0 + 1 + 1) (.str []),view sts i.toNat (0 + 1 + 1 + 1) (.int .i64 0),view sts
 i.toNat (0 + 1 + 1 + 1 + 1) (.int .i64 0),view sts i.toNat (0 + 1 + 1 + 1 + 1 + 1) (.str []),view sts i.toNat (0 + 1 + 1 + 1 + 1 + 1 + 1) (.nils 7),view sts
 i.toNat (0 + 1 + 1 + 1 + 1 + 1 + 1 + 1) (.int .i64 0),view sts i.toNat (0 + 1 + 1 + 1 + 1 + 1 + 1 + 1 + 1) (.nils 3),view sts i.toNat (0 + 1 + 1 + 1 + 1 + 1 +
 1 + 1 + 1 + 1) (.nils 3),view sts i.toNat (0 + 1 + 1 + 1 + 1 + 1 + 1 + 1 + 1 + 1 + 1) (.int .i64 0),view sts i.toNat (0 + 1 + 1 + 1 + 1 + 1 + 1 + 1 + 1 + 1 + 1
 + 1) (.int .i64 0)]) && decide (B ≤ 999999)) (.cnd (!decide ((stepG n l (DV.agg [view sts i.toNat 0 (.int .i64 0),view sts i.toNat (0 + 1) (.int .i64 0),view
 sts i.toNat (0 + 1 + 1) (.str []),view sts i.toNat (0 + 1 + 1 + 1) (.int .i64 0),view sts i.toNat (0 + 1 + 1 + 1 + 1) (.int .i64 0),view sts i.toNat (0 + 1 +
 1 + 1 + 1 + 1) (.str []),view sts i.toNat (0 + 1 + 1 + 1 + 1 + 1 + 1) (.nils 7),view sts i.toNat (0 + 1 + 1 + 1 + 1 + 1 + 1 + 1) (.int .i64 0),view sts
 i.toNat (0 + 1 + 1 + 1 + 1 + 1 + 1 + 1 + 1) (.nils 3),view sts i.toNat (0 + 1 + 1 + 1 + 1 + 1 + 1 + 1 + 1 + 1) (.nils 3),view sts i.toNat (0 + 1 + 1 + 1 + 1 +
 1 + 1 + 1 + 1 + 1 + 1) (.int .i64 0),view sts i.toNat (0 + 1 + 1 + 1 + 1 + 1 + 1 + 1 + 1 + 1 + 1 + 1) (.int .i64 0)])).snd.snd = 0)) (.ok (.inl (Ex.ret,⟨slots
 50 [(0,.d (.slc 2 l)),(4,PV.own 2 []),(5,.d (.int .i64 (stepG n l (DV.agg [view sts i.toNat 0 (.int .i64 0),view sts i.toNat (0 + 1) (.int .i64 0),view
 sts i.toNat (0 + 1 + 1) (.str []),view sts i.toNat (0 + 1 + 1 + 1) (.int .i64 0),view sts i.toNat (0 + 1 + 1 + 1 + 1) (.int .i64 0),view sts i.toNat (0 + 1 +
 1 + 1 + 1 + 1) (.str []),view sts i.toNat (0 + 1 + 1 + 1 + 1 + 1 + 1) (.nils 7),view sts i.toNat (0 + 1 + 1 + 1 + 1 + 1 + 1 + 1) (.int .i64 0),view sts
 i.toNat (0 + 1 + 1 + 1 + 1 + 1 + 1 + 1 + 1) (.nils 3),view sts i.toNat (0 + 1 + 1 + 1 + 1 + 1 + 1 + 1 + 1 + 1) (.nils 3),view sts i.toNat (0 + 1 + 1 + 1 + 1 +
 1 + 1 + 1 + 1 + 1 + 1) (.int .i64 0),view sts i.toNat (0 + 1 + 1 + 1 + 1 + 1 + 1 + 1 + 1 + 1 + 1 + 1) (.int .i64 0)])).snd.fst)),(6,.d (.int .i64 (stepG n l
 (DV.agg [view sts i.toNat 0 (.int .i64 0),view sts i.toNat (0 + 1) (.int .i64 0),view sts i.toNat (0 + 1 + 1) (.str []),view sts i.toNat (0 + 1 + 1 + 1) (.int
 .i64 0),view sts i.toNat (0 + 1 + 1 + 1 + 1) (.int .i64 0),view sts i.toNat (0 + 1 + 1 + 1 + 1 + 1) (.str []),view sts i.toNat (0 + 1 + 1 + 1 + 1 + 1 + 1)
 (.nils 7),view sts i.toNat (0 + 1 + 1 + 1 + 1 + 1 + 1 + 1) (.int .i64 0),view sts i.toNat (0 + 1 + 1 + 1 + 1 + 1 + 1 + 1 + 1) (.nils 3),view sts i.toNat (0 +
 1 + 1 + 1 + 1 + 1 + 1 + 1 + 1 + 1) (.nils 3),view sts i.toNat (0 + 1 + 1 + 1 + 1 + 1 + 1 + 1 + 1 + 1 + 1) (.int .i64 0),view sts i.toNat (0 + 1 + 1 + 1 + 1 + 1
 + 1 + 1 + 1 + 1 + 1 + 1) (.int .i64 0)])).snd.snd))],[PObj.cells [.d (.int .i64 k),.d (.int .i64 f),.d (.int .i64 t),.d (.str path),.d (.str name),.d (.str
 b),.d (.int .i64 c),.d (.bool a),.d (.int .i64 ti),.d (.int .i64 p1),.d (.str b2),.d (.int .i64 cm2),.d (.bool a2),.d (.int .i64 ti2),.d (.int .i64 p2),
 .d (.int .i64 p3),.d (.slc 12 steps)]]⟩))) (.ok (.inr ⟨slots 50 [(0,.d (.slc 2 (stepG n l (DV.agg [view sts i.toNat 0 (.int .i64 0),view sts i.toNat (0 + 1)
 (.int .i64 0),view sts i.toNat (0 + 1 + 1) (.str []),view sts i.toNat (0 + 1 + 1 + 1) (.int .i64 0),view sts i.toNat (0 + 1 + 1 + 1 + 1) (.int .i64 0),view
 sts i.toNat (0 + 1 + 1 + 1 + 1 + 1) (.str []),view sts i.toNat (0 + 1 + 1 + 1 + 1 + 1 + 1) (.nils 7),view sts i.toNat (0 + 1 + 1 + 1 + 1 + 1 + 1 + 1) (.int
 .i64 0),view sts i.toNat (0 + 1 + 1 + 1 + 1 + 1 + 1 + 1 + 1) (.nils 3),view sts i.toNat (0 + 1 + 1 + 1 + 1 + 1 + 1 + 1 + 1 + 1) (.nils 3),view sts i.toNat (0
 + 1 + 1 + 1 + 1 + 1 + 1 + 1 + 1 + 1 + 1) (.int .i64 0),view sts i.toNat (0 + 1 + 1 + 1 + 1 + 1 + 1 + 1 + 1 + 1 + 1 + 1) (.int .i64 0)])).fst)),(27,.d (.slc 12
 sts)),(28,.d (.int .i64 len)),(29,.d (.int .i64 (IntKind.i64.wrap (i + 1))))],[PObj.cells [.d (.int .i64 k),.d (.int .i64 f),.d (.int .i64 t),.d (.str
 path),.d (.str name),.d (.str b),.d (.int .i64 c),.d (.bool a),.d (.int .i64 ti),.d (.int .i64 p1),.d (.str b2),.d (.int .i64 cm2),.d (.bool a2),.d
 (.int .i64 ti2),.d (.int .i64 p2),.d (.int .i64 p3),.d (.slc 12 steps)]]⟩))))))) (.ok (.inl (Ex.exit 0,⟨slots 50 [(0,.d (.slc 2 l))],[PObj.cells [.d (.int
 .i64 k),.d (.int .i64 f),.d (.int .i64 t),.d (.str path),.d (.str name),.d (.str b),.d (.int .i64 c),.d (.bool a),.d (.int .i64 ti),.d (.int .i64 p1),
 .d (.str b2),.d (.int .i64 cm2),.d (.bool a2),.d (.int .i64 ti2),.d (.int .i64 p2),.d (.int .i64 p3),.d (.slc 12 steps)]]⟩)))) (rnd K G):=by kernel_rfl
theorem fn15:FnOk Tryz.prog 15 50 [.tmp 4,.tmp 5,.tmp 6] (body Tryz.f15):=⟨Tryz.f15,Tryz.func15,bodySome _ (by kernel_rfl),by kernel_rfl,by kernel_rfl,by kernel_rfl,by kernel_rfl⟩
theorem run15 (F:Nat) (B n:Nat) (l:List DV) (k f t:Int) (path name b:Str) (c:Int) (a:Bool) (ti p1:Int) (b2:Str) (cm2:Int) (a2:Bool) (ti2 p2
 p3:Int) (steps:List DV):runP (ctx F [(18,.pure S18),(20,.pure S20c),(31,.pure (S31c B n)),(58,.pure (S58 B n)),(59,.pure S59)]) (L15 B n) 50 [.tmp
 4,.tmp 5,.tmp 6] (body Tryz.f15) [.d (.slc 2 l),.d (.agg [.int .i64 k,.int .i64 f,.int .i64 t,.str path,.str name,.str b,.int .i64 c,.bool a,.int .i64
 ti,.int .i64 p1,.str b2,.int .i64 cm2,.bool a2,.int .i64 ti2,.int .i64 p2,.int .i64 p3,.slc 12 steps])] = Tr.val (.cnd (!decide (k = 9)) (.chk (steps.all
 (okStep B n) && decide (steps.length ≤ big) && decide (B ≤ big) && lensQ big path name b b2) (.cnd (rightQ n k f t path name b c a ti b2 cm2 a2 ti2 steps) (.chk
 ((srcC k).all (okCn big) && decide ((srcC k).length ≤ big)) (.cnd (rightC (srcC k)) (.chk (decide ((↑steps.length:Int) = (↑steps.length:Int)) && decide
 (steps.length ≤ big) && decide (steps.all (okStep B n) = true) && decide (B ≤ 999999) && decide ((srcC k).all (okCn big) = true) && decide ((srcC k).length ≤
 big) && decide (0 ≤ 0) && decide (0 ≤ (↑steps.length:Int))) (.cnd (decide ((foldP n (List.drop (Int.toNat 0) steps) (srcC k)).snd.snd = 0)) (.chk (decide (1 ≤
 (foldP n (List.drop (Int.toNat 0) steps) (srcC k)).fst.length) && decide ((foldP n (List.drop (Int.toNat 0) steps) (srcC k)).fst.length ≤ big)) (.ok (PV.tup
 [PV.own 2 (foldP n (List.drop (Int.toNat 0) steps) (srcC k)).fst,.d (.int .i64 (0)),.d (.int .i64 (0))]))) (.ok (PV.tup [PV.own 2 [],.d (.int .i64 (foldP n
 (List.drop (Int.toNat 0) steps) (srcC k)).snd.fst),.d (.int .i64 (foldP n (List.drop (Int.toNat 0) steps) (srcC k)).snd.snd)])))) (.ok (PV.tup [PV.own 2 [],.d
 (.int .i64 (0)),.d (.int .i64 (2))])))) (.ok (PV.tup [PV.own 2 [],.d (.int .i64 (0)),.d (.int .i64 (2))])))) (.chk (steps.all (okStep B n) && decide
 (steps.length ≤ big) && decide (B ≤ big) && lensQ big path name b b2) (.cnd (rightQ n k f t path name b c a ti b2 cm2 a2 ti2 steps) (.chk (l.all (okCn big) &&
 decide (l.length ≤ big)) (.cnd (rightC l) (.chk (decide ((↑steps.length:Int) = (↑steps.length:Int)) && decide (steps.length ≤ big) && decide (steps.all
 (okStep B n) = true) && decide (B ≤ 999999) && decide (l.all (okCn big) = true) && decide (l.length ≤ big) && decide (0 ≤ 0) && decide (0 ≤ (↑steps.length :
 Int))) (.cnd (decide ((foldP n (List.drop (Int.toNat 0) steps) l).snd.snd = 0)) (.chk (decide (1 ≤ (foldP n (List.drop (Int.toNat 0) steps) l).fst.length) &&
 decide ((foldP n (List.drop (Int.toNat 0) steps) l).fst.length ≤ big)) (.ok (PV.tup [PV.own 2 (foldP n (List.drop (Int.toNat 0) steps) l).fst,.d (.int .i64
 (0)),.d (.int .i64 (0))]))) (.ok (PV.tup [PV.own 2 [],.d (.int .i64 (foldP n (List.drop (Int.toNat 0) steps) l).snd.fst),.d (.int .i64 (foldP n (List.drop
 (Int.toNat 0) steps) l).snd.snd)])))) (.ok (PV.tup [PV.own 2 [],.d (.int .i64 (0)),.d (.int .i64 (2))])))) (.ok (PV.tup [PV.own 2 [],.d (.int .i64 (0)),.d
 (.int .i64 (2))]))))):=by kernel_rfl
end Go.PS
end

section
namespace Go.PS
open Go.Proofs
set_option linter.all false
theorem ok125 (W0:World) (hW:Laid W0) (B:Nat):EKOk Tryz.prog W0 125 (.pure (S125 B)):=by
  refine pure_of (tyOk FU [(124,.pure (S124 B)),(192,.pure S192),(22,.pure S22)]) (look_ok (all_cons (ok124 W0 hW B) (all_cons (ok192 W0) (all_cons (ok22 W0) all_nil)))) mixed fn125 (lpsOk_no _ _) fun args r h => ?_
  unfold S125 at h
  split at h
  · rename_i l sk k c vk vn vs L p cols bys m sp
    refine (run125 FU B l sk k c vk vn vs L p cols bys m sp).trans (Eq.trans ?_ h)
    simp only [Tr.val_chk,chk_some,Bool.and_eq_true,decide_eq_true_eq] at h
    obtain ⟨⟨⟨⟨⟨⟨c0,c1⟩,c2⟩,c3⟩,c4⟩,c5⟩,c6⟩:=h.1
    clear h
    have hB:B ≤ big:=by unfold big; omega
    have x1:=named_cn (once:=false) c0 cols [] rfl
    have y1:=named_cn (once:=false) c0 bys [] rfl
    have x2:=named_len (l:=l) (once:=false) cols []
    have y2:=named_len (l:=l) (once:=false) bys []
    have y3:=okCn_le y1 (B:=ML) (by unfold big ML; omega)
    simp only [List.length_nil,Nat.zero_add] at x2 y2
    unfold gatherG
    generalize namedG l false cols [] = X at *
    generalize namedG l false bys [] = Y at *
    have y4:Y.1.length ≤ big:=by unfold big; omega
    have lim:∀ x:DV,limit 24 (Y.1.length + ([x]).length) = true:=fun x => by
      unfold limit; simp only [List.length_singleton,decide_eq_true_eq]; omega
    have can:=gath_can sk
    have e3:(X.1.length:Int) > 0 ↔ 0 < X.1.length:=by omega
    have hy:∀ f,0 ≤ findC Y.1 (cS (gatheredC sk f) 0) → 0 < bys.length ∧ fits [.str [],.bool false,.int .i64 0] (gt .nili bys 0).cells = true:=fun f q => by
      have a:=(findC_get q).1
      have a2:0 < bys.length:=by omega
      exact ⟨a2,okCol_fits (all_gt c3 (i:=0) (by omega) (by omega))⟩
    simp only [Tr.val_ok,Tr.val_cnd,Tr.val_chk,cnd_i,chk_i,Bool.and_eq_true,decide_eq_true_eq,Int.toNat_zero,Nat.zero_add,can,lim,c0,c1,c2,c3,c4,c5,c6,hB,y3,y4,e3,and_self,if_true,mkW,ge_iff_le,Bool.not_eq_true',decide_eq_false_iff_not]
    by_cases q1:X.2.2 = 0
    · by_cases q2:Y.2.2 = 0
      · by_cases q3:0 < X.1.length
        · have hf:=okCn_fits (all_gt x1 (i:=0) (by omega) (by omega))
          have hc:0 < cols.length:=by omega
          have hcf:=okCol_fits (all_gt c2 (i:=0) (by omega) (by omega))
          simp only [Int.toNat_zero] at hf hcf
          have e:ofK X.1 = atI X.1 0 1:=if_pos q3
          have hy1:=hy (atI X.1 0 1)
          rw [e]
          simp only [q1,q2,q3,hf,hc,hcf,if_true,ne_eq,not_true_eq_false,if_false]
          by_cases q4:sk = 6
          · by_cases q5:atI X.1 0 1 = 2
            · simp [q4,q5]
            · by_cases q6:0 ≤ findC Y.1 (cS (gatheredC sk (atI X.1 0 1)) 0)
              · simp only [q4,q5,and_false,if_true,if_false] at q6 ⊢
                rw [q4] at hy1
                simp [q6,(hy1 q6).1,(hy1 q6).2]
              · simp only [q4,q5,and_false,if_true,if_false] at q6 ⊢
                simp [q6]
          · by_cases q6:0 ≤ findC Y.1 (cS (gatheredC sk (atI X.1 0 1)) 0)
            · simp [q4,q6,(hy1 q6).1,(hy1 q6).2]
            · simp [q4,q6]
        · have e:ofK X.1 = 1:=if_neg q3
          have hy1:=hy 1
          rw [e]
          simp only [q1,q2,q3,if_true,ne_eq,not_true_eq_false,if_false]
          by_cases q4:sk = 6
          · subst q4
            by_cases q6:0 ≤ findC Y.1 (cS (gatheredC 6 1) 0)
            · simp [q6,(hy1 q6).1,(hy1 q6).2]
            · simp [q6]
          · by_cases q6:0 ≤ findC Y.1 (cS (gatheredC sk 1) 0)
            · simp [q4,q6,(hy1 q6).1,(hy1 q6).2]
            · simp [q4,q6]
      · simp [q1,q2]
    · simp [q1]
  · simp [Tr.val_no] at h
theorem ok58x (W0:World) (hW:Laid W0) (B n:Nat):EKOk Tryz.prog W0 58 (.pure (S58x B n)):=by
  refine pure_of (tyOk FU [(123,.pure (S123 B n)),(124,.pure (S124 B)),(125,.pure (S125 B))]) (look_ok (all_cons (ok123 W0 hW B n) (all_cons (ok124 W0 hW B) (all_cons (ok125 W0 hW B) all_nil)))) mixed fn58 (lpsOk_no _ _) fun args r h => ?_
  unfold S58x at h
  split at h
  · rename_i l v
    simp only [Tr.val_chk,chk_some,Bool.and_eq_true,decide_eq_true_eq] at h
    obtain ⟨⟨⟨⟨c0,c1⟩,hv⟩,hB⟩,h⟩:=h
    obtain ⟨sk,k,c,vk,vn,vs,L,p,cols,bys,m,sp,rfl,h1,h2,h3,h4,h5,h6⟩:=okStep_inv hv
    refine (run58 FU B n l sk k c vk vn vs L p cols bys m sp).trans (Eq.trans ?_ h)
    have hB2:B ≤ big:=by unfold big; omega
    have e1:stepG n l (.agg [.int .i64 sk,.int .i64 k,.str c,.int .i64 vk,.int .i64 vn,.str vs,.slc 7 L,.int .i64 p,.slc 3 cols,.slc 3 bys,.int .i64 m,.int .i64 sp]) =
      if sk = 1 then (l,whereW l n (.agg [.int .i64 k,.str c,.int .i64 vk,.int .i64 vn,.str vs,.slc 7 L,.int .i64 p])) else
      if sk = 2 then namedG l true cols [] else
      if sk = 3 then (l,(namedG l false cols []).2) else
      if sk = 4 then (l,0,0) else gatherG l cols bys sk:=rfl
    have e2:lentG l (.agg [.int .i64 sk,.int .i64 k,.str c,.int .i64 vk,.int .i64 vn,.str vs,.slc 7 L,.int .i64 p,.slc 3 cols,.slc 3 bys,.int .i64 m,.int .i64 sp]) = (decide (sk = 1) || decide (sk = 3) || decide (sk = 4)):=rfl
    have n1:=named_canon l true cols
    have n2:=named_canon l false cols
    rw [e1,e2]
    simp only [Tr.val_ok,Tr.val_cnd,Tr.val_chk,cnd_i,chk_i,Bool.and_eq_true,Bool.or_eq_true,decide_eq_true_eq,c0,c1,h1,h2,h3,h5,h6,hB,hB2,and_self,if_true,mkW]
    generalize whereW l n (.agg [.int .i64 k,.str c,.int .i64 vk,.int .i64 vn,.str vs,.slc 7 L,.int .i64 p]) = W
    generalize namedG l true cols [] = X at *
    generalize namedG l false cols [] = Y at *
    generalize gatherG l cols bys sk = Z
    clear h hv h1 h2 h3 h4 h5 h6
    by_cases k1:sk = 1
    · simp [k1]
    by_cases k2:sk = 2
    · subst k2
      by_cases q:X.2.2 = 0
      · rw [if_neg (by simpa using q)] at n1
        rw [n1]; simp
      · rw [if_pos q] at n1
        have:X.1 = []:=by rw [n1]
        simp [q,this]
    by_cases k3:sk = 3
    · subst k3
      by_cases q:Y.2.2 = 0
      · rw [if_neg (by simpa using q)] at n2
        rw [n2]; simp
      · simp [q]
    by_cases k4:sk = 4
    · simp [k4]
    simp [k1,k2,k3,k4]
  · simp [Tr.val_no] at h
theorem ok58 (W0:World) (hW:Laid W0) (B n:Nat):EKOk Tryz.prog W0 58 (.pure (S58 B n)):=by
  refine pure_low (ok58x W0 hW B n) fun args v' h => ?_
  unfold S58 at h
  split at h
  · rename_i l v
    simp only [Tr.val_chk,chk_some,Tr.val_ok,Option.some.injEq] at h
    obtain ⟨hc,rfl⟩:=h
    unfold S58x
    simp only [Tr.val_chk,Tr.val_cnd,Tr.val_ok]
    rw [chk_t hc]
    cases lentG l v
    · exact ⟨_,rfl,rfl⟩
    · exact ⟨_,rfl,rfl⟩
  · simp [Tr.val_no] at h
theorem ok24 (W0:World) (hW:Laid W0) (B n:Nat):EKOk Tryz.prog W0 24 (.pure (S24 B n)):=by
  refine pure_of (tyOk FU [(20,.pure S20c),(31,.pure (S31c B n)),(58,.pure (S58 B n)),(59,.pure S59)]) (look_ok (all_cons (ok20c W0 hW) (all_cons (ok31c W0 hW B n) (all_cons (ok58 W0 hW B n) (all_cons (ok59 W0) all_nil))))) mixed fn24 (lpsOk_no _ _) fun args r h => ?_
  unfold S24 at h
  split at h
  · rename_i l v
    simp only [Tr.val_chk,chk_some,Bool.and_eq_true,decide_eq_true_eq] at h
    obtain ⟨⟨⟨⟨c0,c1⟩,hv⟩,hB⟩,h⟩:=h
    have hst:=fun hr hs => step_right (n:=n) (l:=l) (s:=v) hr hs
    have hcn:=step_cn c0 c1 hv hB
    obtain ⟨sk,k,c,vk,vn,vs,L,p,cols,bys,m,sp,rfl,h1,h2,h3,h4,h5,h6⟩:=okStep_inv hv
    refine (run24 FU B n l sk k c vk vn vs L p cols bys m sp).trans (Eq.trans ?_ h)
    have hB2:B ≤ big:=by unfold big; omega
    have hal:=alone_eq n (.agg [.int .i64 sk,.int .i64 k,.str c,.int .i64 vk,.int .i64 vn,.str vs,.slc 7 L,.int .i64 p,.slc 3 cols,.slc 3 bys,.int .i64 m,.int .i64 sp])
    have e4:rightQ n 9 0 0 [] [118] [] 0 false 0 [] 0 false 0 [.agg [.int .i64 sk,.int .i64 k,.str c,.int .i64 vk,.int .i64 vn,.str vs,.slc 7 L,.int .i64 p,.slc 3 cols,.slc 3 bys,.int .i64 m,.int .i64 sp]] = aloneB n (.agg [.int .i64 sk,.int .i64 k,.str c,.int .i64 vk,.int .i64 vn,.str vs,.slc 7 L,.int .i64 p,.slc 3 cols,.slc 3 bys,.int .i64 m,.int .i64 sp]):=rfl
    unfold stepTy stepCc
    clear h1 h2 h3 h4 h5 h6 h
    generalize (DV.agg [.int .i64 sk,.int .i64 k,.str c,.int .i64 vk,.int .i64 vn,.str vs,.slc 7 L,.int .i64 p,.slc 3 cols,.slc 3 bys,.int .i64 m,.int .i64 sp]) = s at *
    have e5:([s]:List DV).all (okStep B n) = true:=by simpa using hv
    have e6:([s]:List DV).length ≤ big:=by unfold big; simp
    have e7:lensQ big [] [118] [] [] = true:=by rfl
    have hlen:rightC l = true → aloneB n s = true → (stepG n l s).2.2 = 0 → 1 ≤ (stepG n l s).1.length:=fun a b c => (rightC_iff.1 (hst a (by rw [← hal]; exact b) c).1).1
    simp only [Tr.val_ok,Tr.val_cnd,Tr.val_chk,cnd_i,chk_i,Bool.and_eq_true,decide_eq_true_eq,c0,c1,hv,hB,hB2,e4,e5,e6,e7,hcn.2,and_self,and_true,if_true,Bool.not_eq_true',decide_eq_false_iff_not]
    clear hst hcn hal e4 e5 c0 c1 hv
    generalize stepG n l s = X at *
    generalize rightC l = Z at *
    generalize aloneB n s = A at *
    by_cases q:X.2.2 = 0
    · cases Z <;> cases A <;> simp [q]
      have:=hlen rfl rfl q
      intro e; rw [e] at this; simp at this
    · cases Z <;> cases A <;> simp [q]
  · simp [Tr.val_no] at h
theorem loop15_0 (F:Nat) {R:Type} (B:Nat) (n:Nat) (sts:List DV) (len:Int) (k:Int) (f:Int) (t:Int) (path:Str) (name:Str) (b:Str) (c:Int) (a:Bool) (ti:Int) (p1:Int) (b2:Str) (cm2:Int) (a2:Bool) (ti2:Int) (p2:Int) (p3:Int) (steps:List DV) (K:Ex → St → Option R) (g0:len = sts.length) (g1:sts.length ≤ big) (g2:sts.all (okStep B n) = true) (g3:B ≤ 999999) :
    ∀ (m:Nat) (l:List DV) (i:Int),l.all (okCn big) = true → l.length ≤ big → 0 ≤ i → i ≤ sts.length → (sts.length - i).toNat < m →
      loopK (pcodeK (ctx F [(18,.pure S18),(20,.pure S20c),(31,.pure (S31c B n)),(58,.pure (S58 B n)),(59,.pure S59)]) noL (lp Tryz.f15 0)) 1 (allBut 50 [0,27,28,29] ++ temps (lp Tryz.f15 0)) (allBut 50 [0,4,5,6]) m
        ⟨slots 50 [(0,.d (.slc 2 l)),(27,.d (.slc 12 sts)),(28,.d (.int .i64 len)),(29,.d (.int .i64 i))],[.cells [.d (.int .i64 k),.d (.int .i64 f),.d (.int .i64 t),.d (.str path),.d (.str name),.d (.str b),.d (.int .i64 c),.d (.bool a),.d (.int .i64 ti),.d (.int .i64 p1),.d (.str b2),.d (.int .i64 cm2),.d (.bool a2),.d (.int .i64 ti2),.d (.int .i64 p2),.d (.int .i64 p3),.d (.slc 12 steps)]]⟩ K =
      Tr.run (.cnd (decide ((foldP n (sts.drop i.toNat) l).2.2 = 0)) (.ok (.exit 0,⟨slots 50 [(0,.d (.slc 2 (foldP n (sts.drop i.toNat) l).1))],[.cells [.d (.int .i64 k),.d (.int .i64 f),.d (.int .i64 t),.d (.str path),.d (.str name),.d (.str b),.d (.int .i64 c),.d (.bool a),.d (.int .i64 ti),.d (.int .i64 p1),.d (.str b2),.d (.int .i64 cm2),.d (.bool a2),.d (.int .i64 ti2),.d (.int .i64 p2),.d (.int .i64 p3),.d (.slc 12 steps)]]⟩)) (.ok (.ret,⟨slots 50 [(0,.d (.slc 2 (foldP n (sts.drop i.toNat) l).1)),(4,.own 2 []),(5,.d (.int .i64 (foldP n (sts.drop i.toNat) l).2.1)),(6,.d (.int .i64 (foldP n (sts.drop i.toNat) l).2.2))],[.cells [.d (.int .i64 k),.d (.int .i64 f),.d (.int .i64 t),.d (.str path),.d (.str name),.d (.str b),.d (.int .i64 c),.d (.bool a),.d (.int .i64 ti),.d (.int .i64 p1),.d (.str b2),.d (.int .i64 cm2),.d (.bool a2),.d (.int .i64 ti2),.d (.int .i64 p2),.d (.int .i64 p3),.d (.slc 12 steps)]]⟩))) (fun p => K p.1 p.2):=by
  intro m
  induction m with
  | zero => intro l i; intros; omega
  | succ m ih =>
    intro l i h0 h1 h2 h3 hm
    rw [loopK_succ,round15_0]
    unfold big at g1
    simp only [Tr.run,rnd,cnd_i,chk_i,Bool.and_eq_true,decide_eq_true_eq]
    by_cases hi:i < len
    · have w:IntKind.i64.wrap (i + 1) = i + 1:=wrap64 (by omega) (by omega)
      have hx:=all_gt g2 (i:=i) (by omega) (by omega)
      have ht:=okStep_fits hx
      rw [okStep_view hx]
      have hcn:=step_cn h0 h1 hx g3
      have ih1:=ih (stepG n l (gt .nili sts i.toNat)).1 (i + 1) hcn.1 hcn.2 (by omega) (by omega) (by omega)
      simp only [Tr.run,cnd_i,decide_eq_true_eq] at ih1
      rw [foldP_drop (by omega) (by omega)]
      clear ih
      have hj:i.toNat < sts.length:=by omega
      simp only [hi,h2,hj,ht,hx,h0,h1,g3,w,and_self,if_true]
      generalize stepG n l (gt .nili sts i.toNat) = X at *
      by_cases q:X.2.2 = 0
      · simp only [q,ne_eq,not_true_eq_false,if_false,decide_true,Bool.not_true,Bool.false_eq_true]
        exact ih1
      · simp [q]
    · have:sts.drop i.toNat = []:=List.drop_of_length_le (by omega)
      rw [this]
      simp [hi,foldP]
theorem lps15 (F:Nat) (hF:F = FU) (B n:Nat):LpsOk (ctx F [(18,.pure S18),(20,.pure S20c),(31,.pure (S31c B n)),(58,.pure (S58 B n)),(59,.pure S59)]) (L15 B n) (loopsOf (body Tryz.f15)):=by
  subst hF
  refine lps_one (c:=lp Tryz.f15 0) rfl (by kernel_rfl) fun R st K r h => ?_
  unfold T15_0 at h
  cases hs:shape 50 [0,27,28,29] st.slots with
  | false => rw [hs] at h; simp [Tr.run] at h
  | true =>
  rw [hs] at h
  simp only [cond_true] at h
  have he:=shape_eq hs
  obtain ⟨sl0,H⟩:=st
  dsimp only at h he ⊢
  split at h
  · rename_i l sts len i k f t path name b c a ti p1 b2 cm2 a2 ti2 p2 p3 steps g0_ g1_ g2_ g3_
    simp only [List.map_cons,List.map_nil,g0_,g1_,g2_,g3_] at he
    subst he
    simp only [Tr.run] at h
    cases hc:(decide (len = sts.length) && decide (sts.length ≤ big) && decide (sts.all (okStep B n) = true) && decide (B ≤ 999999) && decide (l.all (okCn big) = true) && decide (l.length ≤ big) && decide (0 ≤ i) && decide (i ≤ sts.length)) with
    | false => rw [hc] at h; simp at h
    | true =>
    rw [hc] at h
    simp only [Bool.and_eq_true,decide_eq_true_eq] at hc
    obtain ⟨⟨⟨⟨⟨⟨⟨c0,c1⟩,c2⟩,c3⟩,c4⟩,c5⟩,c6⟩,c7⟩:=hc
    refine (loop15_0 FU B n sts len k f t path name b c a ti p1 b2 cm2 a2 ti2 p2 p3 steps K c0 c1 c2 c3 FU l i c4 c5 c6 c7 (by unfold FU; (try unfold big at *); omega)).trans ?_
    rw [← h]
    rfl
  · simp [Tr.run] at h
theorem ok15 (W0:World) (hW:Laid W0) (B n:Nat):EKOk Tryz.prog W0 15 (.pure (S15 B n)):=by
  refine pure_of (tyOk FU [(18,.pure S18),(20,.pure S20c),(31,.pure (S31c B n)),(58,.pure (S58 B n)),(59,.pure S59)]) (look_ok (all_cons (ok18 W0) (all_cons (ok20c W0 hW) (all_cons (ok31c W0 hW B n) (all_cons (ok58 W0 hW B n) (all_cons (ok59 W0) all_nil)))))) mixed fn15 (lps15 FU rfl B n) fun args r h => ?_
  unfold S15 at h
  split at h
  · rename_i l k f t path name b c a ti p1 b2 cm2 a2 ti2 p2 p3 steps
    refine (run15 FU B n l k f t path name b c a ti p1 b2 cm2 a2 ti2 p2 p3 steps).trans (Eq.trans ?_ h)
    simp only [Tr.val_chk,chk_some,Bool.and_eq_true,decide_eq_true_eq] at h
    obtain ⟨⟨⟨⟨⟨c0,c1⟩,c2⟩,c3⟩,c4⟩,c5⟩:=h.1
    clear h
    have hB2:B ≤ big:=by unfold big; omega
    obtain ⟨s1,s2⟩:=src_cn k
    have s2:(srcC k).length ≤ big:=by unfold big; omega
    have hrq:rightQ n k f t path name b c a ti b2 cm2 a2 ti2 steps = true → steps.all (stepB n) = true:=fun q => by
      unfold rightQ at q
      simp only [Bool.and_eq_true] at q
      exact q.2
    have hlen:∀ l,rightC l = true → rightQ n k f t path name b c a ti b2 cm2 a2 ti2 steps = true → (foldP n steps l).2.2 = 0 → 1 ≤ (foldP n steps l).1.length:=fun l a b c => by
      have e:=fold_P n steps l
      rw [if_neg (by simpa using c)] at e
      rw [← e] at c ⊢
      exact (rightC_iff.1 (fold_right a (hrq b) c)).1
    have hat:∀ l,(foldP n steps l).2.2 = 0 → foldP n steps l = ((foldP n steps l).1,0,0):=fun l => foldP_zero n steps l
    have hcn:∀ l,l.all (okCn big) = true → l.length ≤ big → (foldP n steps l).1.length ≤ big:=fun l a b => foldP_cn c4 c2 a b
    unfold colsOf queryG
    simp only [fold_P n steps]
    simp only [Tr.val_ok,Tr.val_cnd,Tr.val_chk,cnd_i,chk_i,Bool.and_eq_true,decide_eq_true_eq,List.drop_zero,Int.toNat_zero,c0,c1,c2,c3,c4,c5,hB2,s1,s2,Int.le_refl,Int.natCast_nonneg,and_self,and_true,if_true]
    generalize rightQ n k f t path name b c a ti b2 cm2 a2 ti2 steps = R at *
    have key:∀ l:List DV,l.all (okCn big) = true → l.length ≤ big → (if R = true then (if rightC l = true then (if (foldP n steps l).2.2 = 0 then (if 1 ≤ (foldP n steps l).1.length ∧ (foldP n steps l).1.length ≤ big then some (PV.tup [PV.own 2 (foldP n steps l).1,PV.d (DV.int IntKind.i64 0),PV.d (DV.int IntKind.i64 0)]) else none) else some (PV.tup [PV.own 2 [],PV.d (DV.int IntKind.i64 (foldP n steps l).2.1),PV.d (DV.int IntKind.i64 (foldP n steps l).2.2)])) else some (PV.tup [PV.own 2 [],PV.d (DV.int IntKind.i64 0),PV.d (DV.int IntKind.i64 2)])) else some (PV.tup [PV.own 2 [],PV.d (DV.int IntKind.i64 0),PV.d (DV.int IntKind.i64 2)])) =
        some (PV.tup [PV.own 2 (if R = false ∨ rightC l = false then (([],0,2):List DV × Int × Int) else if (foldP n steps l).2.2 ≠ 0 then ([],(foldP n steps l).2) else foldP n steps l).1,PV.d (DV.int IntKind.i64 (if R = false ∨ rightC l = false then (([],0,2):List DV × Int × Int) else if (foldP n steps l).2.2 ≠ 0 then ([],(foldP n steps l).2) else foldP n steps l).2.1),PV.d (DV.int IntKind.i64 (if R = false ∨ rightC l = false then (([],0,2):List DV × Int × Int) else if (foldP n steps l).2.2 ≠ 0 then ([],(foldP n steps l).2) else foldP n steps l).2.2)]):=fun l a b => by
      have l1:=hlen l
      have l2:=hat l
      have l3:=hcn l a b
      generalize foldP n steps l = X at *
      generalize rightC l = Z at *
      cases R <;> cases Z <;> simp at l1 ⊢
      by_cases q:X.2.2 = 0
      · have l4:=l2 q
        simp only [q,if_true,l1 q,l3,and_self]
        rw [l4]
      · simp [q]
    by_cases k9:k = 9
    · have:=key l c0 c1
      simp only [k9,if_true] at this ⊢
      rw [← this]
      cases R <;> cases rightC l <;> simp
    · have:=key (srcC k) s1 s2
      simp only [k9,if_false] at this ⊢
      rw [← this]
      cases R <;> cases rightC (srcC k) <;> simp
  · simp [Tr.val_no] at h
end Go.PS
end

section
namespace Go.PS
open Go.Proofs
set_option linter.all false
def leftL (f:DV → Int → Int):List DV → Int → Int
  | [],n => n
  | x :: r,n => if n > 0 then leftL f r (f x n) else n
def cut1 (v:DV) (n:Int):Int:=n - 1 - (cS v 1).length / 50 - (cS v 4).length / 50
def leftV:Nat → DV → Int → Int
  | 0,_,_ => 0
  | d + 1,v,n => if cut1 v n < 1 then 0 else leftL (leftV d) (cL v 5) (cut1 v n)
def colsF (l:List DV):Bool:=decide (l.length ≤ 20) && l.all fun v => decide ((cS v 0).length ≤ 100)
def stepF (s:DV):Bool:=decide (0 < leftV 40 (condOf s) 300) && (colsF (cL s 8) && colsF (cL s 9))
def namesF (l:List DV):Bool:=l.all fun v => decide ((cS v 0).length ≤ 100)
def fewV (path name b b2:Str) (steps l:List DV):Bool :=
  decide (steps.length ≤ 25) && decide (l.length ≤ 30) && decide (path.length + name.length + b.length + b2.length ≤ 500) && namesF l && steps.all stepF
theorem leftL_pos {f:DV → Int → Int}:∀ (l:List DV) (n:Int),0 < leftL f l n → 0 < n:=by
  intro l
  cases l with
  | nil => intro n h; exact h
  | cons x r =>
    intro n h
    unfold leftL at h
    split at h <;> omega
theorem leftL_le {f:DV → Int → Int} (hf:∀ x n,0 < f x n → f x n < n):∀ (l:List DV) (n:Int),0 < leftL f l n → leftL f l n + l.length ≤ n ∧ ∀ x ∈ l,∃ m,m ≤ n ∧ 0 < f x m:=by
  intro l
  induction l with
  | nil => intro n h; exact ⟨by simp [leftL],by simp⟩
  | cons x r ih =>
    intro n h
    unfold leftL at h ⊢
    split at h
    · rename_i hn
      rw [if_pos hn]
      obtain ⟨i1,i2⟩:=ih _ h
      have h1:=leftL_pos _ _ h
      have h2:=hf _ _ h1
      refine ⟨by simp only [List.length_cons]; omega,fun y hy => ?_⟩
      rcases List.mem_cons.1 hy with rfl | hy
      · exact ⟨n,by omega,h1⟩
      · obtain ⟨m,a,b⟩:=i2 y hy
        exact ⟨m,by omega,b⟩
    · omega
theorem leftV_lt:∀ (d:Nat) (v:DV) (n:Int),0 < leftV d v n → leftV d v n < n:=by
  intro d
  induction d with
  | zero => intro v n h; simp [leftV] at h
  | succ d ih =>
    intro v n h
    unfold leftV at h ⊢
    split at h
    · omega
    · rename_i q
      rw [if_neg q]
      have:=(leftL_le ih _ _ h).1
      unfold cut1 at *
      omega
theorem leftL_nn {f:DV → Int → Int} (hf:∀ x n,0 ≤ f x n):∀ (l:List DV) (n:Int),0 ≤ n → 0 ≤ leftL f l n:=by
  intro l
  induction l with
  | nil => intro n h; exact h
  | cons x r ih =>
    intro n h
    unfold leftL
    split
    · exact ih _ (hf x n)
    · exact h
theorem leftV_nn:∀ (d:Nat) (v:DV) (n:Int),0 ≤ leftV d v n:=by
  intro d
  induction d with
  | zero => intro v n; exact Int.le_refl _
  | succ d ih =>
    intro v n
    unfold leftV
    split
    · exact Int.le_refl _
    · exact leftL_nn ih _ _ (by omega)
theorem okC_mk8 {B n:Nat} {k:Int} {c:Str} {vk vn:Int} {vs:Str} {l:List DV} {p:Int} (h1:c.length ≤ B) (h2:vs.length ≤ B) (h3:okI vn = true) (h4:l.length ≤ B) (h5:l.all (okC B n) = true) :
    okC B (n + 1) (.agg [.int .i64 k,.str c,.int .i64 vk,.int .i64 vn,.str vs,.slc 7 l,.int .i64 p]) = true:=by
  simp only [okC,lenB,h1,h2,h3,h4,h5,decide_true,Bool.and_true]
theorem left_ok:∀ (d kk:Nat) (v:DV) (n:Int),okC ML kk v = true → 0 < leftV d v n → n ≤ 300 → okC 20000 kk v = true:=by
  intro d
  induction d with
  | zero => intro kk v n _ h; simp [leftV] at h
  | succ d ih =>
    intro kk v n hv h hn
    obtain ⟨m,rfl⟩:=okC_pos hv
    obtain ⟨k,c,vk,vn,vs,l,p,rfl,h1,h2,h3,h4,h5⟩:=okC_inv hv
    unfold leftV at h
    split at h
    · omega
    · rename_i q
      have e1:cS (.agg [.int .i64 k,.str c,.int .i64 vk,.int .i64 vn,.str vs,.slc 7 l,.int .i64 p]) 1 = c:=rfl
      have e2:cS (.agg [.int .i64 k,.str c,.int .i64 vk,.int .i64 vn,.str vs,.slc 7 l,.int .i64 p]) 4 = vs:=rfl
      have e3:cL (.agg [.int .i64 k,.str c,.int .i64 vk,.int .i64 vn,.str vs,.slc 7 l,.int .i64 p]) 5 = l:=rfl
      unfold cut1 at h q
      rw [e1,e2] at h q
      rw [e3] at h
      obtain ⟨a,b⟩:=leftL_le (leftV_lt d) _ _ h
      refine okC_mk8 (by omega) (by omega) h3 (by omega) ?_
      rw [List.all_eq_true] at h5 ⊢
      intro x hx
      obtain ⟨w,w1,w2⟩:=b x hx
      exact ih m x w (h5 x hx) w2 (by omega)
theorem colsF_ok {l:List DV} (hl:l.all (okCol ML) = true) (h:colsF l = true):l.all (okCol 20000) = true ∧ l.length ≤ 20000:=by
  unfold colsF at h
  simp only [Bool.and_eq_true,decide_eq_true_eq] at h
  refine ⟨?_,by omega⟩
  rw [List.all_eq_true] at hl ⊢
  have h2:=List.all_eq_true.1 h.2
  intro x hx
  obtain ⟨s,d,p,rfl,_⟩:=okCol_inv (hl x hx)
  have:s.length ≤ 100:=by simpa [cS,DV.cells,gt] using h2 _ hx
  simp only [okCol,lenB,decide_eq_true_eq]; omega
theorem okStep_mk8 {B n:Nat} {sk k:Int} {c:Str} {vk vn:Int} {vs:Str} {l:List DV} {p:Int} {cols bys:List DV} {m sp:Int} (h1:okC B n (.agg [.int .i64 k,.str c,.int .i64 vk,.int .i64 vn,.str vs,.slc 7 l,.int .i64 p]) = true) (h2:cols.all (okCol B) = true) (h3:bys.all (okCol B) = true) (h4:okI m = true) (h5:cols.length ≤ B) (h6:bys.length ≤ B) :
    okStep B n (.agg [.int .i64 sk,.int .i64 k,.str c,.int .i64 vk,.int .i64 vn,.str vs,.slc 7 l,.int .i64 p,.slc 3 cols,.slc 3 bys,.int .i64 m,.int .i64 sp]) = true:=by
  simp only [okStep,h1,h2,h3,h4,h5,h6,decide_true,Bool.and_true]
theorem stepF_ok {kk:Nat} {s:DV} (h:okStep ML kk s = true) (hf:stepF s = true):okStep 20000 kk s = true:=by
  obtain ⟨sk,k,c,vk,vn,vs,l,p,cols,bys,m,sp,rfl,h1,h2,h3,h4,h5,h6⟩:=okStep_inv h
  unfold stepF at hf
  simp only [Bool.and_eq_true,decide_eq_true_eq] at hf
  obtain ⟨f1,f2,f3⟩:=hf
  have g2:=colsF_ok h2 f2
  have g3:=colsF_ok h3 f3
  exact okStep_mk8 (left_ok 40 kk _ 300 h1 f1 (by omega)) g2.1 g3.1 h4 g2.2 g3.2
theorem fewV_ok {kk:Nat} {path name b b2:Str} {steps l:List DV} (hs:steps.all (okStep ML kk) = true) (hl:l.all (okCn ML) = true) (h:fewV path name b b2 steps l = true) :
    steps.all (okStep 20000 kk) = true ∧ l.all (okCn 20000) = true ∧ steps.length ≤ 25 ∧ l.length ≤ 30 ∧ path.length ≤ 500 ∧ name.length ≤ 500 ∧ b.length ≤ 500 ∧ b2.length ≤ 500:=by
  unfold fewV at h
  simp only [Bool.and_eq_true,decide_eq_true_eq] at h
  obtain ⟨⟨⟨⟨f1,f2⟩,f3⟩,f4⟩,f5⟩:=h
  refine ⟨?_,?_,f1,f2,by omega,by omega,by omega,by omega⟩
  · rw [List.all_eq_true] at hs f5 ⊢
    exact fun x hx => stepF_ok (hs x hx) (f5 x hx)
  · unfold namesF at f4
    rw [List.all_eq_true] at hl f4 ⊢
    intro x hx
    obtain ⟨s,k,rfl,_⟩:=okCn_inv (hl x hx)
    have:s.length ≤ 100:=by simpa [cS,DV.cells,gt] using f4 _ hx
    simp only [okCn,lenB,decide_eq_true_eq]; omega
def S55 (kk:Nat):List PV → Tr PV
  | [.d v,.d (.int .i64 n),.d (.int .i64 e)] => .chk (okC ML kk v && decide (0 ≤ e) && decide (e ≤ 1000) && decide (0 ≤ n) && decide (n ≤ 1000)) (.ok (.d (.int .i64 (leftV e.toNat v n))))
  | _ => .no
theorem S55_zero (args:List PV) (v:PV):(S55 0 args).val ≠ some v:=by
  unfold S55
  split
  · rw [okC_zero]; simp [Tr.val_chk]
  · simp [Tr.val_no]
theorem left_drop {f:DV → Int → Int} {xs:List DV} {i n:Int} (h0:0 ≤ i) (h:i < xs.length):leftL f (xs.drop i.toNat) n = if n > 0 then leftL f (xs.drop (i + 1).toNat) (f (gt .nili xs i.toNat) n) else n:=by
  rw [drop_gt h0 h]; rfl
theorem leftL_zero (f:DV → Int → Int) (l:List DV):leftL f l 0 = 0:=by
  cases l with
  | nil => rfl
  | cons x r => unfold leftL; rw [if_neg (by omega)]
def S56:List PV → Tr PV
  | [.d (.slc 3 l)] => .chk (l.all (okCol ML)) (.ok (.d (.bool (colsF l))))
  | _ => .no
def shortC (v:DV):Bool:=decide ((cS v 0).length ≤ 100)
def S13 (kk:Nat):List PV → Tr PV
  | [.d (.agg [.int .i64 k,.int .i64 f,.int .i64 t,.str path,.str name,.str b,.int .i64 c,.bool a,.int .i64 ti,.int .i64 p1,.str b2,.int .i64 cm2,.bool a2,.int .i64 ti2,.int .i64 p2,.int .i64 p3,.slc 12 steps]),.d (.slc 2 l)] => .chk (steps.all (okStep ML kk) && l.all (okCn ML) && decide (path.length ≤ 200000000000000) && decide (name.length ≤ 200000000000000) && decide (b.length ≤ 200000000000000) && decide (b2.length ≤ 200000000000000)) (.ok (.d (.bool (fewV path name b b2 steps l))))
  | _ => .no
def T55_0 (kk:Nat) (st:St):Tr (Ex × St) :=
  bif shape 48 [1,2,3,7] st.slots then
    match gt .undef st.slots 1,gt .undef st.slots 2,gt .undef st.slots 3,gt .undef st.slots 7,st.heap with
    | .d (.int .i64 n),.d (.int .i64 e),.ptr 0 0,.d (.int .i64 i),[.cells [.d (.int .i64 k),.d (.str c),.d (.int .i64 vk),.d (.int .i64 vn),.d (.str vs),.d (.slc 7 L),.d (.int .i64 p)]] =>
      .chk (decide (L.length ≤ ML) && decide (L.all (okC ML kk) = true) && decide (1 ≤ e) && decide (e ≤ 1000) && decide (0 ≤ n) && decide (n ≤ 1000) && decide (0 ≤ i) && decide (i ≤ L.length)) (.ok (.exit 0,⟨slots 48 [(1,.d (.int .i64 (leftL (leftV (e - 1).toNat) (L.drop i.toNat) n)))],[.cells [.d (.int .i64 k),.d (.str c),.d (.int .i64 vk),.d (.int .i64 vn),.d (.str vs),.d (.slc 7 L),.d (.int .i64 p)]]⟩))
    | _,_,_,_,_ => .no
  else .no
def L55 (kk:Nat):Lps:=fun i => bif Nat.beq i 5 then some (allBut 48 [1,2,3,7],allBut 48 [1],T55_0 kk) else none
def T56_0 (st:St):Tr (Ex × St) :=
  bif shape 20 [0,3] st.slots then
    match gt .undef st.slots 0,gt .undef st.slots 3,st.heap with
    | .d (.slc 3 l),.d (.int .i64 i),[] =>
      .chk (decide (l.length ≤ 20) && decide (l.all (okCol ML) = true) && decide (0 ≤ i) && decide (i ≤ l.length)) (.cnd ((l.drop i.toNat).all shortC) (.ok (.exit 0,⟨slots 20 [],[]⟩)) (.ok (.ret,⟨slots 20 [(2,.d (.bool false))],[]⟩)))
    | _,_,_ => .no
  else .no
def L56:Lps:=fun i => bif Nat.beq i 4 then some (allBut 20 [0,3],allBut 20 [2],T56_0) else none
def T13_0 (st:St):Tr (Ex × St) :=
  bif shape 81 [1,2,6] st.slots then
    match gt .undef st.slots 1,gt .undef st.slots 2,gt .undef st.slots 6,st.heap with
    | .d (.slc 2 l),.ptr 0 0,.d (.int .i64 i),[.cells [.d (.int .i64 k),.d (.int .i64 f),.d (.int .i64 t),.d (.str path),.d (.str name),.d (.str b),.d (.int .i64 c),.d (.bool a),.d (.int .i64 ti),.d (.int .i64 p1),.d (.str b2),.d (.int .i64 cm2),.d (.bool a2),.d (.int .i64 ti2),.d (.int .i64 p2),.d (.int .i64 p3),.d (.slc 12 steps)],.cells [.d (.int .i64 u0),.d (.int .i64 u1),.d (.int .i64 u2),.d (.str u3),.d (.str u4),.d (.str u5),.d (.int .i64 u6),.d (.bool u7),.d (.int .i64 u8),.d (.int .i64 u9),.d (.str u10),.d (.int .i64 u11),.d (.bool u12),.d (.int .i64 u13),.d (.int .i64 u14),.d (.int .i64 u15)]] =>
      .chk (decide (l.length ≤ 30) && decide (l.all (okCn ML) = true) && decide (0 ≤ i) && decide (i ≤ l.length)) (.cnd ((l.drop i.toNat).all shortC) (.ok (.exit 0,⟨slots 81 [(2,.ptr 0 0)],[.cells [.d (.int .i64 k),.d (.int .i64 f),.d (.int .i64 t),.d (.str path),.d (.str name),.d (.str b),.d (.int .i64 c),.d (.bool a),.d (.int .i64 ti),.d (.int .i64 p1),.d (.str b2),.d (.int .i64 cm2),.d (.bool a2),.d (.int .i64 ti2),.d (.int .i64 p2),.d (.int .i64 p3),.d (.slc 12 steps)],.cells [.d (.int .i64 u0),.d (.int .i64 u1),.d (.int .i64 u2),.d (.str u3),.d (.str u4),.d (.str u5),.d (.int .i64 u6),.d (.bool u7),.d (.int .i64 u8),.d (.int .i64 u9),.d (.str u10),.d (.int .i64 u11),.d (.bool u12),.d (.int .i64 u13),.d (.int .i64 u14),.d (.int .i64 u15)]]⟩)) (.ok (.ret,⟨slots 81 [(2,.ptr 0 0),(4,.d (.bool false))],[.cells [.d (.int .i64 k),.d (.int .i64 f),.d (.int .i64 t),.d (.str path),.d (.str name),.d (.str b),.d (.int .i64 c),.d (.bool a),.d (.int .i64 ti),.d (.int .i64 p1),.d (.str b2),.d (.int .i64 cm2),.d (.bool a2),.d (.int .i64 ti2),.d (.int .i64 p2),.d (.int .i64 p3),.d (.slc 12 steps)],.cells [.d (.int .i64 u0),.d (.int .i64 u1),.d (.int .i64 u2),.d (.str u3),.d (.str u4),.d (.str u5),.d (.int .i64 u6),.d (.bool u7),.d (.int .i64 u8),.d (.int .i64 u9),.d (.str u10),.d (.int .i64 u11),.d (.bool u12),.d (.int .i64 u13),.d (.int .i64 u14),.d (.int .i64 u15)]]⟩)))
    | _,_,_,_ => .no
  else .no
def T13_1 (kk:Nat) (st:St):Tr (Ex × St) :=
  bif shape 81 [2,7] st.slots then
    match gt .undef st.slots 2,gt .undef st.slots 7,st.heap with
    | .ptr 0 0,.d (.int .i64 i),[.cells [.d (.int .i64 k),.d (.int .i64 f),.d (.int .i64 t),.d (.str path),.d (.str name),.d (.str b),.d (.int .i64 c),.d (.bool a),.d (.int .i64 ti),.d (.int .i64 p1),.d (.str b2),.d (.int .i64 cm2),.d (.bool a2),.d (.int .i64 ti2),.d (.int .i64 p2),.d (.int .i64 p3),.d (.slc 12 steps)],.cells [.d (.int .i64 u0),.d (.int .i64 u1),.d (.int .i64 u2),.d (.str u3),.d (.str u4),.d (.str u5),.d (.int .i64 u6),.d (.bool u7),.d (.int .i64 u8),.d (.int .i64 u9),.d (.str u10),.d (.int .i64 u11),.d (.bool u12),.d (.int .i64 u13),.d (.int .i64 u14),.d (.int .i64 u15)]] =>
      .chk (decide (steps.length ≤ 25) && decide (steps.all (okStep ML kk) = true) && decide (0 ≤ i) && decide (i ≤ steps.length)) (.cnd ((steps.drop i.toNat).all stepF) (.ok (.exit 2,⟨slots 81 [],[.cells [.d (.int .i64 k),.d (.int .i64 f),.d (.int .i64 t),.d (.str path),.d (.str name),.d (.str b),.d (.int .i64 c),.d (.bool a),.d (.int .i64 ti),.d (.int .i64 p1),.d (.str b2),.d (.int .i64 cm2),.d (.bool a2),.d (.int .i64 ti2),.d (.int .i64 p2),.d (.int .i64 p3),.d (.slc 12 steps)],.cells [.d (.int .i64 u0),.d (.int .i64 u1),.d (.int .i64 u2),.d (.str u3),.d (.str u4),.d (.str u5),.d (.int .i64 u6),.d (.bool u7),.d (.int .i64 u8),.d (.int .i64 u9),.d (.str u10),.d (.int .i64 u11),.d (.bool u12),.d (.int .i64 u13),.d (.int .i64 u14),.d (.int .i64 u15)]]⟩)) (.ok (.ret,⟨slots 81 [(4,.d (.bool false))],[.cells [.d (.int .i64 k),.d (.int .i64 f),.d (.int .i64 t),.d (.str path),.d (.str name),.d (.str b),.d (.int .i64 c),.d (.bool a),.d (.int .i64 ti),.d (.int .i64 p1),.d (.str b2),.d (.int .i64 cm2),.d (.bool a2),.d (.int .i64 ti2),.d (.int .i64 p2),.d (.int .i64 p3),.d (.slc 12 steps)],.cells [.d (.int .i64 u0),.d (.int .i64 u1),.d (.int .i64 u2),.d (.str u3),.d (.str u4),.d (.str u5),.d (.int .i64 u6),.d (.bool u7),.d (.int .i64 u8),.d (.int .i64 u9),.d (.str u10),.d (.int .i64 u11),.d (.bool u12),.d (.int .i64 u13),.d (.int .i64 u14),.d (.int .i64 u15)]]⟩)))
    | _,_,_ => .no
  else .no
end Go.PS
end

section
namespace Go.PS
open Go.Proofs
set_option maxRecDepth 100000
theorem round55_0 (F:Nat) {R:Type} (kk:Nat) (n e i:Int) (k:Int) (c:Str) (vk vn:Int) (vs:Str) (L:List DV) (p:Int) (K:Ex → St → Option R) (G
 : St → Option R):roundK (pcodeK (ctx F [(55,.pure (S55 kk))]) noL (lp Tryz.f55 0)) 1 (allBut 48 [1,2,3,7] ++ temps (lp Tryz.f55 0)) (allBut 48 [1]) ⟨slots
 48 [(1,.d (.int .i64 n)),(2,.d (.int .i64 e)),(3,.ptr 0 0),(7,.d (.int .i64 i))],[.cells [.d (.int .i64 k),.d (.str c),.d (.int .i64 vk),.d (.int .i64
 vn),.d (.str vs),.d (.slc 7 L),.d (.int .i64 p)]]⟩ K G = Tr.run (.cnd (decide (i < (↑L.length:Int))) (.cnd (decide (n > 0)) (.chk (decide (0 ≤ i)) (.chk
 (decide (i.toNat < L.length)) (.chk (fits [.int .i64 0,.str [],.int .i64 0,.int .i64 0,.str [],.nils 7,.int .i64 0] (gt DV.nili L i.toNat).cells) (.chk
 (okC ML kk (DV.agg [view L i.toNat 0 (.int .i64 0),view L i.toNat (0 + 1) (.str []),view L i.toNat (0 + 1 + 1) (.int .i64 0),view L i.toNat (0 + 1 + 1 + 1)
 (.int .i64 0),view L i.toNat (0 + 1 + 1 + 1 + 1) (.str []),view L i.toNat (0 + 1 + 1 + 1 + 1 + 1) (.nils 7),view L i.toNat (0 + 1 + 1 + 1 + 1 + 1 + 1) (.int
 .i64 0)]) && decide (0 ≤ IntKind.i64.wrap (e - 1)) && decide (IntKind.i64.wrap (e - 1) ≤ 1000) && decide (0 ≤ n) && decide (n ≤ 1000)) (.ok (.inr ⟨slots 48 [(1,
 .d (.int .i64 (leftV (IntKind.i64.wrap (e - 1)).toNat (DV.agg [view L i.toNat 0 (.int .i64 0),view L i.toNat (0 + 1) (.str []),view L i.toNat (0 + 1 + 1) (.int
 .i64 0),view L i.toNat (0 + 1 + 1 + 1) (.int .i64 0),view L i.toNat (0 + 1 + 1 + 1 + 1) (.str []),view L i.toNat (0 + 1 + 1 + 1 + 1 + 1) (.nils 7),view L
 i.toNat (0 + 1 + 1 + 1 + 1 + 1 + 1) (.int .i64 0)]) n))),(2,.d (.int .i64 e)),(3,PV.ptr 0 0),(7,.d (.int .i64 (IntKind.i64.wrap (i + 1))))],[PObj.cells
 [.d (.int .i64 k),.d (.str c),.d (.int .i64 vk),.d (.int .i64 vn),.d (.str vs),.d (.slc 7 L),.d (.int .i64 p)]]⟩)))))) (.ok (.inl (Ex.exit 0,⟨slots 48
 [(1,.d (.int .i64 n))],[PObj.cells [.d (.int .i64 k),.d (.str c),.d (.int .i64 vk),.d (.int .i64 vn),.d (.str vs),.d (.slc 7 L),.d (.int .i64 p)]]⟩))))
 (.ok (.inl (Ex.exit 0,⟨slots 48 [(1,.d (.int .i64 n))],[PObj.cells [.d (.int .i64 k),.d (.str c),.d (.int .i64 vk),.d (.int .i64 vn),.d (.str vs),.d
 (.slc 7 L),.d (.int .i64 p)]]⟩)))) (rnd K G):=by kernel_rfl
theorem fn55:FnOk Tryz.prog 55 48 [.tmp 6] (body Tryz.f55):=⟨Tryz.f55,Tryz.func55,bodySome _ (by kernel_rfl),by kernel_rfl,by kernel_rfl,by kernel_rfl,by kernel_rfl⟩
theorem run55 (F:Nat) (kk:Nat) (k:Int) (c:Str) (vk vn:Int) (vs:Str) (L:List DV) (p:Int) (n e:Int):runP (ctx F [(55,.pure (S55 kk))]) (L55
 kk) 48 [.tmp 6] (body Tryz.f55) [.d (.agg [.int .i64 k,.str c,.int .i64 vk,.int .i64 vn,.str vs,.slc 7 L,.int .i64 p]),.d (.int .i64 n),.d (.int .i64 e)]
 = Tr.val (.cnd (decide (e < 1)) (.ok (PV.d (.int .i64 (0)))) (.cnd (decide (IntKind.i64.wrap (IntKind.i64.wrap (IntKind.i64.wrap (n - 1) - IntKind.i64.wrap
 ((↑(List.length c):Int).tdiv 50)) - IntKind.i64.wrap ((↑(List.length vs):Int).tdiv 50)) < 1)) (.ok (PV.d (.int .i64 (0)))) (.chk (decide (L.length ≤ ML) &&
 decide (L.all (okC ML kk) = true) && decide (1 ≤ e) && decide (e ≤ 1000) && decide (0 ≤ IntKind.i64.wrap (IntKind.i64.wrap (IntKind.i64.wrap (n - 1) -
 IntKind.i64.wrap ((↑(List.length c):Int).tdiv 50)) - IntKind.i64.wrap ((↑(List.length vs):Int).tdiv 50))) && decide (IntKind.i64.wrap (IntKind.i64.wrap
 (IntKind.i64.wrap (n - 1) - IntKind.i64.wrap ((↑(List.length c):Int).tdiv 50)) - IntKind.i64.wrap ((↑(List.length vs):Int).tdiv 50)) ≤ 1000) && decide (0 ≤
 0) && decide (0 ≤ (↑L.length:Int))) (.ok (PV.d (.int .i64 (leftL (leftV (e - 1).toNat) (List.drop (Int.toNat 0) L) (IntKind.i64.wrap (IntKind.i64.wrap
 (IntKind.i64.wrap (n - 1) - IntKind.i64.wrap ((↑(List.length c):Int).tdiv 50)) - IntKind.i64.wrap ((↑(List.length vs):Int).tdiv 50)))))))))):=by kernel_rfl
theorem round56_0 (F:Nat) {R:Type} (l:List DV) (i:Int) (K:Ex → St → Option R) (G:St → Option R):roundK (pcodeK (ctx F []) noL (lp Tryz.f56 0)) 0
 (allBut 20 [0,3] ++ temps (lp Tryz.f56 0)) (allBut 20 [2]) ⟨slots 20 [(0,.d (.slc 3 l)),(3,.d (.int .i64 i))],[]⟩ K G = Tr.run (.cnd (decide (i < (↑l.length
 : Int))) (.chk (decide (0 ≤ i)) (.chk (decide (i.toNat < l.length)) (.chk (fits [.str [],.bool false,.int .i64 0] (gt DV.nili l i.toNat).cells) (.cnd (decide
 ((↑(atS l i.toNat 0).length:Int) > 100)) (.ok (.inl (Ex.ret,⟨slots 20 [(2,.d (.bool false))],[]⟩))) (.ok (.inr ⟨slots 20 [(0,.d (.slc 3 l)),(3,.d (.int
 .i64 (IntKind.i64.wrap (i + 1))))],[]⟩)))))) (.ok (.inl (Ex.exit 0,⟨slots 20 [],[]⟩)))) (rnd K G):=by kernel_rfl
theorem fn56:FnOk Tryz.prog 56 20 [.tmp 2] (body Tryz.f56):=⟨Tryz.f56,Tryz.func56,bodySome _ (by kernel_rfl),by kernel_rfl,by kernel_rfl,by kernel_rfl,by kernel_rfl⟩
theorem run56 (F:Nat) (l:List DV):runP (ctx F []) L56 20 [.tmp 2] (body Tryz.f56) [.d (.slc 3 l)] = Tr.val (.cnd (decide ((↑l.length:Int) > 20)) (.ok
 (PV.d (.bool false))) (.chk (decide (l.length ≤ 20) && decide (l.all (okCol ML) = true) && decide (0 ≤ 0) && decide (0 ≤ (↑l.length:Int))) (.cnd ((List.drop
 (Int.toNat 0) l).all shortC) (.ok (PV.d (.bool true))) (.ok (PV.d (.bool false)))))):=by kernel_rfl
theorem round13_0 (F:Nat) {R:Type} (kk:Nat) (l:List DV) (i:Int) (k f t:Int) (path name b:Str) (c:Int) (a:Bool) (ti p1:Int) (b2:Str) (cm2 :
 Int) (a2:Bool) (ti2 p2 p3:Int) (steps:List DV) (u0:Int) (u1:Int) (u2:Int) (u3:Str) (u4:Str) (u5:Str) (u6:Int) (u7:Bool) (u8:Int) (u9 :
 Int) (u10:Str) (u11:Int) (u12:Bool) (u13:Int) (u14:Int) (u15:Int) (K:Ex → St → Option R) (G:St → Option R):roundK (pcodeK (ctx F [(55,.pure
 (S55 kk)),(56,.pure S56)]) noL (lp Tryz.f13 0)) 2 (allBut 81 [1,2,6] ++ temps (lp Tryz.f13 0)) (allBut 81 [2,4]) ⟨slots 81 [(1,.d (.slc 2 l)),(2,.ptr 0
 0),(6,.d (.int .i64 i))],[.cells [.d (.int .i64 k),.d (.int .i64 f),.d (.int .i64 t),.d (.str path),.d (.str name),.d (.str b),.d (.int .i64 c),.d
 (.bool a),.d (.int .i64 ti),.d (.int .i64 p1),.d (.str b2),.d (.int .i64 cm2),.d (.bool a2),.d (.int .i64 ti2),.d (.int .i64 p2),.d (.int .i64 p3),.d
 (.slc 12 steps)],.cells [.d (.int .i64 u0),.d (.int .i64 u1),.d (.int .i64 u2),.d (.str u3),.d (.str u4),.d (.str u5),.d (.int .i64 u6),.d (.bool u7),.d
 (.int .i64 u8),.d (.int .i64 u9),.d (.str u10),.d (.int .i64 u11),.d (.bool u12),.d (.int .i64 u13),.d (.int .i64 u14),.d (.int .i64 u15)]]⟩ K G = Tr.run
 (.cnd (decide (i < (↑l.length:Int))) (.chk (decide (0 ≤ i)) (.chk (decide (i.toNat < l.length)) (.chk (fits [.str [],.int .i64 0] (gt DV.nili l
 i.toNat).cells) (.cnd (decide ((↑(atS l i.toNat 0).length:Int) > 100)) (.ok (.inl (Ex.ret,⟨slots 81 [(2,PV.ptr 0 0),(4,.d (.bool false))],[PObj.cells [.d
 (.int .i64 k),.d (.int .i64 f),.d (.int .i64 t),.d (.str path),.d (.str name),.d (.str b),.d (.int .i64 c),.d (.bool a),.d (.int .i64 ti),.d (.int .i64
 p1),.d (.str b2),.d (.int .i64 cm2),.d (.bool a2),.d (.int .i64 ti2),.d (.int .i64 p2),.d (.int .i64 p3),.d (.slc 12 steps)],PObj.cells [.d (.int .i64
 u0),.d (.int .i64 u1),.d (.int .i64 u2),.d (.str u3),.d (.str u4),.d (.str u5),.d (.int .i64 u6),.d (.bool u7),.d (.int .i64 u8),.d (.int .i64 u9),.d
 (.str u10),.d (.int .i64 u11),.d (.bool u12),.d (.int .i64 u13),.d (.int .i64 u14),.d (.int .i64 u15)]]⟩))) (.ok (.inr ⟨slots 81 [(1,.d (.slc 2 l)),(2,
 PV.ptr 0 0),(6,.d (.int .i64 (IntKind.i64.wrap (i + 1))))],[PObj.cells [.d (.int .i64 k),.d (.int .i64 f),.d (.int .i64 t),.d (.str path),.d (.str name),
 .d (.str b),.d (.int .i64 c),.d (.bool a),.d (.int .i64 ti),.d (.int .i64 p1),.d (.str b2),.d (.int .i64 cm2),.d (.bool a2),.d (.int .i64 ti2),.d (.int
 .i64 p2),.d (.int .i64 p3),.d (.slc 12 steps)],PObj.cells [.d (.int .i64 u0),.d (.int .i64 u1),.d (.int .i64 u2),.d (.str u3),.d (.str u4),.d (.str u5),
 .d (.int .i64 u6),.d (.bool u7),.d (.int .i64 u8),.d (.int .i64 u9),.d (.str u10),.d (.int .i64 u11),.d (.bool u12),.d (.int .i64 u13),.d (.int .i64
 u14),.d (.int .i64 u15)]]⟩)))))) (.ok (.inl (Ex.exit 0,⟨slots 81 [(2,PV.ptr 0 0)],[PObj.cells [.d (.int .i64 k),.d (.int .i64 f),.d (.int .i64 t),.d (.str
 path),.d (.str name),.d (.str b),.d (.int .i64 c),.d (.bool a),.d (.int .i64 ti),.d (.int .i64 p1),.d (.str b2),.d (.int .i64 cm2),.d (.bool a2),.d
 (.int .i64 ti2),.d (.int .i64 p2),.d (.int .i64 p3),.d (.slc 12 steps)],PObj.cells [.d (.int .i64 u0),.d (.int .i64 u1),.d (.int .i64 u2),.d (.str u3),.d
 (.str u4),.d (.str u5),.d (.int .i64 u6),.d (.bool u7),.d (.int .i64 u8),.d (.int .i64 u9),.d (.str u10),.d (.int .i64 u11),.d (.bool u12),.d (.int .i64
 u13),.d (.int .i64 u14),.d (.int .i64 u15)]]⟩)))) (rnd K G):=by kernel_rfl
theorem round13_1 (F:Nat) {R:Type} (kk:Nat) (i:Int) (k f t:Int) (path name b:Str) (c:Int) (a:Bool) (ti p1:Int) (b2:Str) (cm2:Int) (a2 :
 Bool) (ti2 p2 p3:Int) (steps:List DV) (u0:Int) (u1:Int) (u2:Int) (u3:Str) (u4:Str) (u5:Str) (u6:Int) (u7:Bool) (u8:Int) (u9:Int) (u10 :
 Str) (u11:Int) (u12:Bool) (u13:Int) (u14:Int) (u15:Int) (K:Ex → St → Option R) (G:St → Option R):roundK (pcodeK (ctx F [(55,.pure (S55 kk)),
 (56,.pure S56)]) noL (lp Tryz.f13 1)) 2 (allBut 81 [2,7] ++ temps (lp Tryz.f13 1)) (allBut 81 [4]) ⟨slots 81 [(2,.ptr 0 0),(7,.d (.int .i64 i))],[.cells
 [.d (.int .i64 k),.d (.int .i64 f),.d (.int .i64 t),.d (.str path),.d (.str name),.d (.str b),.d (.int .i64 c),.d (.bool a),.d (.int .i64 ti),.d (.int
 .i64 p1),.d (.str b2),.d (.int .i64 cm2),.d (.bool a2),.d (.int .i64 ti2),.d (.int .i64 p2),.d (.int .i64 p3),.d (.slc 12 steps)],.cells [.d (.int .i64
 u0),.d (.int .i64 u1),.d (.int .i64 u2),.d (.str u3),.d (.str u4),.d (.str u5),.d (.int .i64 u6),.d (.bool u7),.d (.int .i64 u8),.d (.int .i64 u9),.d
 (.str u10),.d (.int .i64 u11),.d (.bool u12),.d (.int .i64 u13),.d (.int .i64 u14),.d (.int .i64 u15)]]⟩ K G = Tr.run (.cnd (decide (i < (↑steps.length :
 Int))) (.chk (decide (0 ≤ i)) (.chk (decide (i.toNat < steps.length)) (.chk (fits [.int .i64 0,.int .i64 0,.str [],.int .i64 0,.int .i64 0,.str [],.nils 7,
 .int .i64 0,.nils 3,.nils 3,.int .i64 0,.int .i64 0] (gt DV.nili steps i.toNat).cells) (.chk (okC ML kk (DV.agg [view steps i.toNat (0 + 1) (.int .i64 0),
 view steps i.toNat (0 + 1 + 1) (.str []),view steps i.toNat (0 + 1 + 1 + 1) (.int .i64 0),view steps i.toNat (0 + 1 + 1 + 1 + 1) (.int .i64 0),view steps
 i.toNat (0 + 1 + 1 + 1 + 1 + 1) (.str []),view steps i.toNat (0 + 1 + 1 + 1 + 1 + 1 + 1) (.nils 7),view steps i.toNat (0 + 1 + 1 + 1 + 1 + 1 + 1 + 1) (.int
 .i64 0)]) && decide (0 ≤ 40) && decide (40 ≤ 1000) && decide (0 ≤ 300) && decide (300 ≤ 1000)) (.cnd (decide (leftV (Int.toNat 40) (DV.agg [view steps i.toNat (0
 + 1) (.int .i64 0),view steps i.toNat (0 + 1 + 1) (.str []),view steps i.toNat (0 + 1 + 1 + 1) (.int .i64 0),view steps i.toNat (0 + 1 + 1 + 1 + 1) (.int .i64
 0),view steps i.toNat (0 + 1 + 1 + 1 + 1 + 1) (.str []),view steps i.toNat (0 + 1 + 1 + 1 + 1 + 1 + 1) (.nils 7),view steps i.toNat (0 + 1 + 1 + 1 + 1 + 1 + 1
 + 1) (.int .i64 0)]) 300 ≤ 0)) (.ok (.inl (Ex.ret,⟨slots 81 [(4,.d (.bool false))],[PObj.cells [.d (.int .i64 k),.d (.int .i64 f),.d (.int .i64 t),.d (.str
 path),.d (.str name),.d (.str b),.d (.int .i64 c),.d (.bool a),.d (.int .i64 ti),.d (.int .i64 p1),.d (.str b2),.d (.int .i64 cm2),.d (.bool a2),.d
 (.int .i64 ti2),.d (.int .i64 p2),.d (.int .i64 p3),.d (.slc 12 steps)],PObj.cells [.d (.int .i64 u0),.d (.int .i64 u1),.d (.int .i64 u2),.d (.str u3),.d
 (.str u4),.d (.str u5),.d (.int .i64 u6),.d (.bool u7),.d (.int .i64 u8),.d (.int .i64 u9),.d (.str u10),.d (.int .i64 u11),.d (.bool u12),.d (.int .i64
 u13),.d (.int .i64 u14),.d (.int .i64 u15)]]⟩))) (.chk ((atL steps i.toNat (0 + 1 + 1 + 1 + 1 + 1 + 1 + 1 + 1)).all (okCol ML)) (.cnd (!colsF (atL steps
 i.toNat (0 + 1 + 1 + 1 + 1 + 1 + 1 + 1 + 1))) (.ok (.inl (Ex.ret,⟨slots 81 [(4,.d (.bool false))],[PObj.cells [.d (.int .i64 k),.d (.int .i64 f),.d (.int
 .i64 t),.d (.str path),.d (.str name),.d (.str b),.d (.int .i64 c),.d (.bool a),.d (.int .i64 ti),.d (.int .i64 p1),.d (.str b2),.d (.int .i64 cm2),.d
 (.bool a2),.d (.int .i64 ti2),.d (.int .i64 p2),.d (.int .i64 p3),.d (.slc 12 steps)],PObj.cells [.d (.int .i64 u0),.d (.int .i64 u1),.d (.int .i64 u2),
 .d (.str u3),.d (.str u4),.d (.str u5),.d (.int .i64 u6),.d (.bool u7),.d (.int .i64 u8),.d (.int .i64 u9),.d (.str u10),.d (.int .i64 u11),.d (.bool
 u12),.d (.int .i64 u13),.d (.int .i64 u14),.d (.int .i64 u15)]]⟩))) (.chk ((atL steps i.toNat (0 + 1 + 1 + 1 + 1 + 1 + 1 + 1 + 1 + 1)).all (okCol ML)) (.cnd
 (!colsF (atL steps i.toNat (0 + 1 + 1 + 1 + 1 + 1 + 1 + 1 + 1 + 1))) (.ok (.inl (Ex.ret,⟨slots 81 [(4,.d (.bool false))],[PObj.cells [.d (.int .i64 k),.d
 (.int .i64 f),.d (.int .i64 t),.d (.str path),.d (.str name),.d (.str b),.d (.int .i64 c),.d (.bool a),.d (.int .i64 ti),.d (.int .i64 p1),.d (.str b2),
 .d (.int .i64 cm2),.d (.bool a2),.d (.int .i64 ti2),.d (.int .i64 p2),.d (.int .i64 p3),.d (.slc 12 steps)],PObj.cells [.d (.int .i64 u0),.d (.int .i64
 u1),.d (.int .i64 u2),.d (.str u3),.d (.str u4),.d (.str u5),.d (.int .i64 u6),.d (.bool u7),.d (.int .i64 u8),.d (.int .i64 u9),.d (.str u10),.d (.int
 .i64 u11),.d (.bool u12),.d (.int .i64 u13),.d (.int .i64 u14),.d (.int .i64 u15)]]⟩))) (.ok (.inr ⟨slots 81 [(2,PV.ptr 0 0),(7,.d (.int .i64
 (IntKind.i64.wrap (i + 1))))],[PObj.cells [.d (.int .i64 k),.d (.int .i64 f),.d (.int .i64 t),.d (.str path),.d (.str name),.d (.str b),.d (.int .i64 c),
 .d (.bool a),.d (.int .i64 ti),.d (.int .i64 p1),.d (.str b2),.d (.int .i64 cm2),.d (.bool a2),.d (.int .i64 ti2),.d (.int .i64 p2),.d (.int .i64 p3),.d
 (.slc 12 steps)],PObj.cells [.d (.int .i64 u0),.d (.int .i64 u1),.d (.int .i64 u2),.d (.str u3),.d (.str u4),.d (.str u5),.d (.int .i64 u6),.d (.bool
 u7),.d (.int .i64 u8),.d (.int .i64 u9),.d (.str u10),.d (.int .i64 u11),.d (.bool u12),.d (.int .i64 u13),.d (.int .i64 u14),.d (.int .i64
 u15)]]⟩))))))))))) (.ok (.inl (Ex.exit 2,⟨slots 81 [],[PObj.cells [.d (.int .i64 k),.d (.int .i64 f),.d (.int .i64 t),.d (.str path),.d (.str name),.d
 (.str b),.d (.int .i64 c),.d (.bool a),.d (.int .i64 ti),.d (.int .i64 p1),.d (.str b2),.d (.int .i64 cm2),.d (.bool a2),.d (.int .i64 ti2),.d (.int
 .i64 p2),.d (.int .i64 p3),.d (.slc 12 steps)],PObj.cells [.d (.int .i64 u0),.d (.int .i64 u1),.d (.int .i64 u2),.d (.str u3),.d (.str u4),.d (.str u5),
 .d (.int .i64 u6),.d (.bool u7),.d (.int .i64 u8),.d (.int .i64 u9),.d (.str u10),.d (.int .i64 u11),.d (.bool u12),.d (.int .i64 u13),.d (.int .i64
 u14),.d (.int .i64 u15)]]⟩)))) (rnd K G):=by kernel_rfl
end Go.PS
end

section
namespace Go.PS
open Go.Proofs
set_option linter.all false
theorem loop55_0 (F:Nat) {R:Type} (kk:Nat) (e:Int) (k:Int) (c:Str) (vk:Int) (vn:Int) (vs:Str) (L:List DV) (p:Int) (K:Ex → St → Option R) (g0:L.length ≤ ML) (g1:L.all (okC ML kk) = true) (g2:1 ≤ e) (g3:e ≤ 1000) :
    ∀ (m:Nat) (n:Int) (i:Int),0 ≤ n → n ≤ 1000 → 0 ≤ i → i ≤ L.length → (n).toNat < m →
      loopK (pcodeK (ctx F [(55,.pure (S55 kk))]) noL (lp Tryz.f55 0)) 1 (allBut 48 [1,2,3,7] ++ temps (lp Tryz.f55 0)) (allBut 48 [1]) m
        ⟨slots 48 [(1,.d (.int .i64 n)),(2,.d (.int .i64 e)),(3,.ptr 0 0),(7,.d (.int .i64 i))],[.cells [.d (.int .i64 k),.d (.str c),.d (.int .i64 vk),.d (.int .i64 vn),.d (.str vs),.d (.slc 7 L),.d (.int .i64 p)]]⟩ K =
      Tr.run (.ok (.exit 0,⟨slots 48 [(1,.d (.int .i64 (leftL (leftV (e - 1).toNat) (L.drop i.toNat) n)))],[.cells [.d (.int .i64 k),.d (.str c),.d (.int .i64 vk),.d (.int .i64 vn),.d (.str vs),.d (.slc 7 L),.d (.int .i64 p)]]⟩)) (fun p => K p.1 p.2):=by
  intro m
  induction m with
  | zero => intro n i; intros; omega
  | succ m ih =>
    intro n i h0 h1 h2 h3 hm
    rw [loopK_succ,round55_0]
    have w2:IntKind.i64.wrap (e - 1) = e - 1:=wrap64 (by omega) (by omega)
    simp only [Tr.run,rnd,cnd_i,chk_i,Bool.and_eq_true,decide_eq_true_eq,w2]
    by_cases hi:i < L.length
    · by_cases hn:n > 0
      · have w:IntKind.i64.wrap (i + 1) = i + 1:=wrap64 (by omega) (by unfold ML at g0; omega)
        have hx:=all_gt g1 (i:=i) (by omega) (by omega)
        have ht:=okC_fits hx
        rw [okC_view hx]
        have f1:=leftV_nn (e - 1).toNat (gt .nili L i.toNat) n
        have f2:leftV (e - 1).toNat (gt .nili L i.toNat) n < n:=by
          by_cases q:0 < leftV (e - 1).toNat (gt .nili L i.toNat) n
          · exact leftV_lt _ _ _ q
          · omega
        have ih1:=ih (leftV (e - 1).toNat (gt .nili L i.toNat) n) (i + 1) f1 (by omega) (by omega) (by omega) (by omega)
        simp only [Tr.run] at ih1
        rw [left_drop (by omega) (by omega),if_pos hn]
        have hj:i.toNat < L.length:=by omega
        have e0:0 ≤ e - 1:=by omega
        have e1:e - 1 ≤ 1000:=by omega
        simp only [hi,hn,h2,hj,ht,hx,e0,e1,h0,h1,w,and_self,if_true]
        exact ih1
      · have:n = 0:=by omega
        subst this
        rw [leftL_zero]
        simp [hi]
    · have:L.drop i.toNat = []:=List.drop_of_length_le (by omega)
      rw [this]
      simp [hi,leftL]
theorem lps55 (F:Nat) (hF:F = FU) (kk:Nat):LpsOk (ctx F [(55,.pure (S55 kk))]) (L55 kk) (loopsOf (body Tryz.f55)):=by
  subst hF
  refine lps_one (c:=lp Tryz.f55 0) rfl (by kernel_rfl) fun R st K r h => ?_
  unfold T55_0 at h
  cases hs:shape 48 [1,2,3,7] st.slots with
  | false => rw [hs] at h; simp [Tr.run] at h
  | true =>
  rw [hs] at h
  simp only [cond_true] at h
  have he:=shape_eq hs
  obtain ⟨sl0,H⟩:=st
  dsimp only at h he ⊢
  split at h
  · rename_i n e i k c vk vn vs L p g0_ g1_ g2_ g3_
    simp only [List.map_cons,List.map_nil,g0_,g1_,g2_,g3_] at he
    subst he
    simp only [Tr.run] at h
    cases hc:(decide (L.length ≤ ML) && decide (L.all (okC ML kk) = true) && decide (1 ≤ e) && decide (e ≤ 1000) && decide (0 ≤ n) && decide (n ≤ 1000) && decide (0 ≤ i) && decide (i ≤ L.length)) with
    | false => rw [hc] at h; simp at h
    | true =>
    rw [hc] at h
    simp only [Bool.and_eq_true,decide_eq_true_eq] at hc
    obtain ⟨⟨⟨⟨⟨⟨⟨c0,c1⟩,c2⟩,c3⟩,c4⟩,c5⟩,c6⟩,c7⟩:=hc
    refine (loop55_0 FU kk e k c vk vn vs L p K c0 c1 c2 c3 FU n i c4 c5 c6 c7 (by unfold FU; (try unfold big at *); omega)).trans ?_
    rw [← h]
    rfl
  · simp [Tr.run] at h
theorem ok55s (W0:World) (kk:Nat) (ih:EKOk Tryz.prog W0 55 (.pure (S55 kk))):EKOk Tryz.prog W0 55 (.pure (S55 (kk + 1))):=by
  refine pure_of (tyOk FU [(55,.pure (S55 kk))]) (look_ok (all_cons ih all_nil)) mixed fn55 (lps55 FU rfl kk) fun args r h => ?_
  unfold S55 at h
  split at h
  · rename_i v n e
    simp only [Tr.val_chk,chk_some,Bool.and_eq_true,decide_eq_true_eq] at h
    obtain ⟨⟨⟨⟨⟨hv,q1⟩,q2⟩,q3⟩,q4⟩,h⟩:=h
    obtain ⟨k,c,vk,vn,vs,L,p,rfl,h1,h2,h3,h4,h5⟩:=okC_inv hv
    refine (run55 FU kk k c vk vn vs L p n e).trans (Eq.trans ?_ h)
    unfold ML at h1 h2
    have w1:IntKind.i64.wrap (n - 1) = n - 1:=wrap64 (by omega) (by omega)
    have d1:(c.length:Int).tdiv 50 = (c.length:Int) / 50:=Int.tdiv_eq_ediv_of_nonneg (by omega)
    have d2:(vs.length:Int).tdiv 50 = (vs.length:Int) / 50:=Int.tdiv_eq_ediv_of_nonneg (by omega)
    have w2:IntKind.i64.wrap ((c.length:Int) / 50) = (c.length:Int) / 50:=wrap64 (by omega) (by omega)
    have w3:IntKind.i64.wrap ((vs.length:Int) / 50) = (vs.length:Int) / 50:=wrap64 (by omega) (by omega)
    have w4:IntKind.i64.wrap (n - 1 - (c.length:Int) / 50) = n - 1 - (c.length:Int) / 50:=wrap64 (by omega) (by omega)
    have w5:IntKind.i64.wrap (n - 1 - (c.length:Int) / 50 - (vs.length:Int) / 50) = n - 1 - (c.length:Int) / 50 - (vs.length:Int) / 50:=wrap64 (by omega) (by omega)
    simp only [Tr.val_ok,Tr.val_cnd,Tr.val_chk,cnd_i,chk_i,Bool.and_eq_true,decide_eq_true_eq,List.drop_zero,Int.toNat_zero,w1,d1,d2,w2,w3,w4,w5,h4,h5]
    by_cases z:e < 1
    · have:e.toNat = 0:=by omega
      simp only [z,if_true,this]; rfl
    · have e1:e.toNat = (e - 1).toNat + 1:=by omega
      have e2:leftV ((e - 1).toNat + 1) (.agg [.int .i64 k,.str c,.int .i64 vk,.int .i64 vn,.str vs,.slc 7 L,.int .i64 p]) n = if n - 1 - (c.length:Int) / 50 - (vs.length:Int) / 50 < 1 then 0 else leftL (leftV (e - 1).toNat) L (n - 1 - (c.length:Int) / 50 - (vs.length:Int) / 50):=rfl
      rw [e1,e2]
      simp only [z,if_false]
      by_cases y:n - 1 - (c.length:Int) / 50 - (vs.length:Int) / 50 < 1
      · simp only [y,if_true]
      · simp only [y,if_false]
        rw [if_pos (by simp only [and_true,true_and]; omega)]
  · simp [Tr.val_no] at h
theorem loop56_0 (F:Nat) {R:Type} (l:List DV) (K:Ex → St → Option R) (g0:l.length ≤ 20) (g1:l.all (okCol ML) = true) :
    ∀ (m:Nat) (i:Int),0 ≤ i → i ≤ l.length → (l.length - i).toNat < m →
      loopK (pcodeK (ctx F []) noL (lp Tryz.f56 0)) 0 (allBut 20 [0,3] ++ temps (lp Tryz.f56 0)) (allBut 20 [2]) m
        ⟨slots 20 [(0,.d (.slc 3 l)),(3,.d (.int .i64 i))],[]⟩ K =
      Tr.run (.cnd ((l.drop i.toNat).all shortC) (.ok (.exit 0,⟨slots 20 [],[]⟩)) (.ok (.ret,⟨slots 20 [(2,.d (.bool false))],[]⟩))) (fun p => K p.1 p.2):=by
  intro m
  induction m with
  | zero => intro i; intros; omega
  | succ m ih =>
    intro i h0 h1 hm
    rw [loopK_succ,round56_0]
    simp only [Tr.run,rnd,cnd_i,chk_i,Bool.and_eq_true,decide_eq_true_eq]
    by_cases hi:i < l.length
    · have w:IntKind.i64.wrap (i + 1) = i + 1:=wrap64 (by omega) (by omega)
      have hx:=all_gt g1 (i:=i) (by omega) (by omega)
      have ht:=okCol_fits hx
      have ih1:=ih (i + 1)
      simp only [Tr.run,cnd_i] at ih1
      have e:shortC (gt .nili l i.toNat) = decide ((atS l i.toNat 0).length ≤ 100):=rfl
      have e2:((atS l i.toNat 0).length:Int) > 100 ↔ ¬ ((atS l i.toNat 0).length ≤ 100):=by omega
      rw [all_drop (by omega) (by omega),e]
      simp only [e2]
      clear ih
      rw [ht]
      grind
    · have:l.drop i.toNat = []:=List.drop_of_length_le (by omega)
      rw [this]
      simp [hi]
theorem lps56 (F:Nat) (hF:F = FU):LpsOk (ctx F []) L56 (loopsOf (body Tryz.f56)):=by
  subst hF
  refine lps_one (c:=lp Tryz.f56 0) rfl (by kernel_rfl) fun R st K r h => ?_
  unfold T56_0 at h
  cases hs:shape 20 [0,3] st.slots with
  | false => rw [hs] at h; simp [Tr.run] at h
  | true =>
  rw [hs] at h
  simp only [cond_true] at h
  have he:=shape_eq hs
  obtain ⟨sl0,H⟩:=st
  dsimp only at h he ⊢
  split at h
  · rename_i l i g0_ g1_
    simp only [List.map_cons,List.map_nil,g0_,g1_] at he
    subst he
    simp only [Tr.run] at h
    cases hc:(decide (l.length ≤ 20) && decide (l.all (okCol ML) = true) && decide (0 ≤ i) && decide (i ≤ l.length)) with
    | false => rw [hc] at h; simp at h
    | true =>
    rw [hc] at h
    simp only [Bool.and_eq_true,decide_eq_true_eq] at hc
    obtain ⟨⟨⟨c0,c1⟩,c2⟩,c3⟩:=hc
    refine (loop56_0 FU l K c0 c1 FU i c2 c3 (by unfold FU; (try unfold big at *); omega)).trans ?_
    rw [← h]
    rfl
  · simp [Tr.run] at h
theorem ok56 (W0:World):EKOk Tryz.prog W0 56 (.pure S56):=by
  refine pure_of (tyOk FU []) (look_ok all_nil) mixed fn56 (lps56 FU rfl) fun args r h => ?_
  unfold S56 at h
  split at h
  · rename_i l
    refine (run56 FU l).trans (Eq.trans ?_ h)
    simp only [Tr.val_chk,chk_some,Bool.and_eq_true,decide_eq_true_eq] at h
    obtain c0:=h.1
    clear h
    have e:(l.length:Int) > 20 ↔ ¬ (l.length ≤ 20):=by omega
    have e2:colsF l = (decide (l.length ≤ 20) && l.all shortC):=rfl
    simp only [Tr.val_ok,Tr.val_cnd,Tr.val_chk,cnd_i,chk_i,Bool.and_eq_true,decide_eq_true_eq,List.drop_zero,Int.toNat_zero,c0,e,e2]
    by_cases q:l.length ≤ 20
    · simp only [q,not_true_eq_false,if_false,decide_true,Bool.true_and,true_and,and_self,if_true,Int.le_refl,Int.natCast_nonneg]
      cases l.all shortC <;> rfl
    · simp [q]
  · simp [Tr.val_no] at h
theorem loop13_0 (F:Nat) {R:Type} (kk:Nat) (l:List DV) (k:Int) (f:Int) (t:Int) (path:Str) (name:Str) (b:Str) (c:Int) (a:Bool) (ti:Int) (p1:Int) (b2:Str) (cm2:Int) (a2:Bool) (ti2:Int) (p2:Int) (p3:Int) (steps:List DV) (u0:Int) (u1:Int) (u2:Int) (u3:Str) (u4:Str) (u5:Str) (u6:Int) (u7:Bool) (u8:Int) (u9:Int) (u10:Str) (u11:Int) (u12:Bool) (u13:Int) (u14:Int) (u15:Int) (K:Ex → St → Option R) (g0:l.length ≤ 30) (g1:l.all (okCn ML) = true) :
    ∀ (m:Nat) (i:Int),0 ≤ i → i ≤ l.length → (l.length - i).toNat < m →
      loopK (pcodeK (ctx F [(55,.pure (S55 kk)),(56,.pure S56)]) noL (lp Tryz.f13 0)) 2 (allBut 81 [1,2,6] ++ temps (lp Tryz.f13 0)) (allBut 81 [2,4]) m
        ⟨slots 81 [(1,.d (.slc 2 l)),(2,.ptr 0 0),(6,.d (.int .i64 i))],[.cells [.d (.int .i64 k),.d (.int .i64 f),.d (.int .i64 t),.d (.str path),.d (.str name),.d (.str b),.d (.int .i64 c),.d (.bool a),.d (.int .i64 ti),.d (.int .i64 p1),.d (.str b2),.d (.int .i64 cm2),.d (.bool a2),.d (.int .i64 ti2),.d (.int .i64 p2),.d (.int .i64 p3),.d (.slc 12 steps)],.cells [.d (.int .i64 u0),.d (.int .i64 u1),.d (.int .i64 u2),.d (.str u3),.d (.str u4),.d (.str u5),.d (.int .i64 u6),.d (.bool u7),.d (.int .i64 u8),.d (.int .i64 u9),.d (.str u10),.d (.int .i64 u11),.d (.bool u12),.d (.int .i64 u13),.d (.int .i64 u14),.d (.int .i64 u15)]]⟩ K =
      Tr.run (.cnd ((l.drop i.toNat).all shortC) (.ok (.exit 0,⟨slots 81 [(2,.ptr 0 0)],[.cells [.d (.int .i64 k),.d (.int .i64 f),.d (.int .i64 t),.d (.str path),.d (.str name),.d (.str b),.d (.int .i64 c),.d (.bool a),.d (.int .i64 ti),.d (.int .i64 p1),.d (.str b2),.d (.int .i64 cm2),.d (.bool a2),.d (.int .i64 ti2),.d (.int .i64 p2),.d (.int .i64 p3),.d (.slc 12 steps)],.cells [.d (.int .i64 u0),.d (.int .i64 u1),.d (.int .i64 u2),.d (.str u3),.d (.str u4),.d (.str u5),.d (.int .i64 u6),.d (.bool u7),.d (.int .i64 u8),.d (.int .i64 u9),.d (.str u10),.d (.int .i64 u11),.d (.bool u12),.d (.int .i64 u13),.d (.int .i64 u14),.d (.int .i64 u15)]]⟩)) (.ok (.ret,⟨slots 81 [(2,.ptr 0 0),(4,.d (.bool false))],[.cells [.d (.int .i64 k),.d (.int .i64 f),.d (.int .i64 t),.d (.str path),.d (.str name),.d (.str b),.d (.int .i64 c),.d (.bool a),.d (.int .i64 ti),.d (.int .i64 p1),.d (.str b2),.d (.int .i64 cm2),.d (.bool a2),.d (.int .i64 ti2),.d (.int .i64 p2),.d (.int .i64 p3),.d (.slc 12 steps)],.cells [.d (.int .i64 u0),.d (.int .i64 u1),.d (.int .i64 u2),.d (.str u3),.d (.str u4),.d (.str u5),.d (.int .i64 u6),.d (.bool u7),.d (.int .i64 u8),.d (.int .i64 u9),.d (.str u10),.d (.int .i64 u11),.d (.bool u12),.d (.int .i64 u13),.d (.int .i64 u14),.d (.int .i64 u15)]]⟩))) (fun p => K p.1 p.2):=by
  intro m
  induction m with
  | zero => intro i; intros; omega
  | succ m ih =>
    intro i h0 h1 hm
    rw [loopK_succ,round13_0]
    simp only [Tr.run,rnd,cnd_i,chk_i,Bool.and_eq_true,decide_eq_true_eq]
    by_cases hi:i < l.length
    · have w:IntKind.i64.wrap (i + 1) = i + 1:=wrap64 (by omega) (by omega)
      have hx:=all_gt g1 (i:=i) (by omega) (by omega)
      have ht:=okCn_fits hx
      have ih1:=ih (i + 1)
      simp only [Tr.run,cnd_i] at ih1
      have e:shortC (gt .nili l i.toNat) = decide ((atS l i.toNat 0).length ≤ 100):=rfl
      have e2:((atS l i.toNat 0).length:Int) > 100 ↔ ¬ ((atS l i.toNat 0).length ≤ 100):=by omega
      rw [all_drop (by omega) (by omega),e]
      simp only [e2]
      clear ih
      rw [ht]
      grind
    · have:l.drop i.toNat = []:=List.drop_of_length_le (by omega)
      rw [this]
      simp [hi]
theorem loop13_1 (F:Nat) {R:Type} (kk:Nat) (k:Int) (f:Int) (t:Int) (path:Str) (name:Str) (b:Str) (c:Int) (a:Bool) (ti:Int) (p1:Int) (b2:Str) (cm2:Int) (a2:Bool) (ti2:Int) (p2:Int) (p3:Int) (steps:List DV) (u0:Int) (u1:Int) (u2:Int) (u3:Str) (u4:Str) (u5:Str) (u6:Int) (u7:Bool) (u8:Int) (u9:Int) (u10:Str) (u11:Int) (u12:Bool) (u13:Int) (u14:Int) (u15:Int) (K:Ex → St → Option R) (g0:steps.length ≤ 25) (g1:steps.all (okStep ML kk) = true) :
    ∀ (m:Nat) (i:Int),0 ≤ i → i ≤ steps.length → (steps.length - i).toNat < m →
      loopK (pcodeK (ctx F [(55,.pure (S55 kk)),(56,.pure S56)]) noL (lp Tryz.f13 1)) 2 (allBut 81 [2,7] ++ temps (lp Tryz.f13 1)) (allBut 81 [4]) m
        ⟨slots 81 [(2,.ptr 0 0),(7,.d (.int .i64 i))],[.cells [.d (.int .i64 k),.d (.int .i64 f),.d (.int .i64 t),.d (.str path),.d (.str name),.d (.str b),.d (.int .i64 c),.d (.bool a),.d (.int .i64 ti),.d (.int .i64 p1),.d (.str b2),.d (.int .i64 cm2),.d (.bool a2),.d (.int .i64 ti2),.d (.int .i64 p2),.d (.int .i64 p3),.d (.slc 12 steps)],.cells [.d (.int .i64 u0),.d (.int .i64 u1),.d (.int .i64 u2),.d (.str u3),.d (.str u4),.d (.str u5),.d (.int .i64 u6),.d (.bool u7),.d (.int .i64 u8),.d (.int .i64 u9),.d (.str u10),.d (.int .i64 u11),.d (.bool u12),.d (.int .i64 u13),.d (.int .i64 u14),.d (.int .i64 u15)]]⟩ K =
      Tr.run (.cnd ((steps.drop i.toNat).all stepF) (.ok (.exit 2,⟨slots 81 [],[.cells [.d (.int .i64 k),.d (.int .i64 f),.d (.int .i64 t),.d (.str path),.d (.str name),.d (.str b),.d (.int .i64 c),.d (.bool a),.d (.int .i64 ti),.d (.int .i64 p1),.d (.str b2),.d (.int .i64 cm2),.d (.bool a2),.d (.int .i64 ti2),.d (.int .i64 p2),.d (.int .i64 p3),.d (.slc 12 steps)],.cells [.d (.int .i64 u0),.d (.int .i64 u1),.d (.int .i64 u2),.d (.str u3),.d (.str u4),.d (.str u5),.d (.int .i64 u6),.d (.bool u7),.d (.int .i64 u8),.d (.int .i64 u9),.d (.str u10),.d (.int .i64 u11),.d (.bool u12),.d (.int .i64 u13),.d (.int .i64 u14),.d (.int .i64 u15)]]⟩)) (.ok (.ret,⟨slots 81 [(4,.d (.bool false))],[.cells [.d (.int .i64 k),.d (.int .i64 f),.d (.int .i64 t),.d (.str path),.d (.str name),.d (.str b),.d (.int .i64 c),.d (.bool a),.d (.int .i64 ti),.d (.int .i64 p1),.d (.str b2),.d (.int .i64 cm2),.d (.bool a2),.d (.int .i64 ti2),.d (.int .i64 p2),.d (.int .i64 p3),.d (.slc 12 steps)],.cells [.d (.int .i64 u0),.d (.int .i64 u1),.d (.int .i64 u2),.d (.str u3),.d (.str u4),.d (.str u5),.d (.int .i64 u6),.d (.bool u7),.d (.int .i64 u8),.d (.int .i64 u9),.d (.str u10),.d (.int .i64 u11),.d (.bool u12),.d (.int .i64 u13),.d (.int .i64 u14),.d (.int .i64 u15)]]⟩))) (fun p => K p.1 p.2):=by
  intro m
  induction m with
  | zero => intro i; intros; omega
  | succ m ih =>
    intro i h0 h1 hm
    rw [loopK_succ,round13_1]
    simp only [Tr.run,rnd,cnd_i,chk_i,Bool.and_eq_true,decide_eq_true_eq]
    by_cases hi:i < steps.length
    · have w:IntKind.i64.wrap (i + 1) = i + 1:=wrap64 (by omega) (by omega)
      have hx:=all_gt g1 (i:=i) (by omega) (by omega)
      have ht:=okStep_fits hx
      have ih1:=ih (i + 1)
      simp only [Tr.run,cnd_i] at ih1
      have e:stepF (gt .nili steps i.toNat) = (decide (0 < leftV 40 (condOf (gt .nili steps i.toNat)) 300) && (colsF (atL steps i.toNat 8) && colsF (atL steps i.toNat 9))):=rfl
      have hcv:DV.agg [view steps i.toNat (0 + 1) (DV.int IntKind.i64 0),view steps i.toNat (0 + 1 + 1) (DV.str []),view steps i.toNat (0 + 1 + 1 + 1) (DV.int IntKind.i64 0),view steps i.toNat (0 + 1 + 1 + 1 + 1) (DV.int IntKind.i64 0),view steps i.toNat (0 + 1 + 1 + 1 + 1 + 1) (DV.str []),view steps i.toNat (0 + 1 + 1 + 1 + 1 + 1 + 1) (DV.nils 7),view steps i.toNat (0 + 1 + 1 + 1 + 1 + 1 + 1 + 1) (DV.int IntKind.i64 0)] = condOf (gt .nili steps i.toNat):=by
        obtain ⟨sk,k,c,vk,vn,vs,L,p,cols,bys,m,sp,e,_⟩:=okStep_inv hx
        simp only [view,atI,atS,atL]
        rw [e]; rfl
      obtain ⟨hc2,hc3⟩:(atL steps i.toNat 8).all (okCol ML) = true ∧ (atL steps i.toNat 9).all (okCol ML) = true:=by
        obtain ⟨sk,k,c,vk,vn,vs,L,p,cols,bys,m,sp,e,h1,h2,h3,_⟩:=okStep_inv hx
        unfold atL
        rw [e]; exact ⟨h2,h3⟩
      have hc1:=cond_ok hx
      have e40:Int.toNat 40 = 40:=rfl
      have hj:i.toNat < steps.length:=by omega
      have e8:0 + 1 + 1 + 1 + 1 + 1 + 1 + 1 + 1 = 8:=rfl
      have e9:0 + 1 + 1 + 1 + 1 + 1 + 1 + 1 + 1 + 1 = 9:=rfl
      rw [all_drop (by omega) (by omega),e]
      clear ih
      simp only [hi,h0,hj,ht,hcv,hc1,hc2,hc3,e40,e8,e9,w,and_self,if_true,Int.reduceLE,true_and,Bool.not_eq_true',decide_true]
      generalize leftV 40 (condOf (gt .nili steps i.toNat)) 300 = x1 at *
      generalize colsF (atL steps i.toNat 8) = x2 at *
      generalize colsF (atL steps i.toNat 9) = x3 at *
      by_cases q:x1 ≤ 0
      · have q2:¬ 0 < x1:=by omega
        simp [q,q2]
      · have q2:0 < x1:=by omega
        have ih2:=ih1 (by omega) (by omega) (by omega)
        cases x2 <;> cases x3 <;> simp [q,q2,-List.all_eq_true]
        exact ih2
    · have:steps.drop i.toNat = []:=List.drop_of_length_le (by omega)
      rw [this]
      simp [hi]
end Go.PS
end

section
namespace Go.PS
open Go.Proofs
set_option linter.all false
def L13 (kk:Nat):Lps:=fun i => bif Nat.beq i 5 then some (allBut 81 [1,2,6],allBut 81 [2,4],T13_0) else bif Nat.beq i 10 then some (allBut 81 [2,7],allBut 81 [4],T13_1 kk) else none
theorem lps13 (F:Nat) (hF:F = FU) (kk:Nat):LpsOk (ctx F [(55,.pure (S55 kk)),(56,.pure S56)]) (L13 kk) (loopsOf (body Tryz.f13)):=by
  subst hF
  refine lps_two (c1:=lp Tryz.f13 0) (c2:=lp Tryz.f13 1) (ks1:=allBut 81 [1,2,6]) (xs1:=allBut 81 [2,4]) (T1:=T13_0) (ks2:=allBut 81 [2,7]) (xs2:=allBut 81 [4]) (T2:=T13_1 kk) (by kernel_rfl) (by kernel_rfl) (by kernel_rfl) (fun R st K r h => ?_) (fun R st K r h => ?_)
  · unfold T13_0 at h
    cases hs:shape 81 [1,2,6] st.slots with
    | false => rw [hs] at h; simp [Tr.run] at h
    | true =>
    rw [hs] at h
    simp only [cond_true] at h
    have he:=shape_eq hs
    obtain ⟨sl0,H⟩:=st
    dsimp only at h he ⊢
    split at h
    · rename_i l i k f t path name b c a ti p1 b2 cm2 a2 ti2 p2 p3 steps u0 u1 u2 u3 u4 u5 u6 u7 u8 u9 u10 u11 u12 u13 u14 u15 g0_ g1_ g2_
      simp only [List.map_cons,List.map_nil,g0_,g1_,g2_] at he
      subst he
      simp only [Tr.run] at h
      cases hc:(decide (l.length ≤ 30) && decide (l.all (okCn ML) = true) && decide (0 ≤ i) && decide (i ≤ l.length)) with
      | false => rw [hc] at h; simp at h
      | true =>
      rw [hc] at h
      simp only [Bool.and_eq_true,decide_eq_true_eq] at hc
      obtain ⟨⟨⟨c0,c1⟩,c2⟩,c3⟩:=hc
      refine (loop13_0 FU kk l k f t path name b c a ti p1 b2 cm2 a2 ti2 p2 p3 steps u0 u1 u2 u3 u4 u5 u6 u7 u8 u9 u10 u11 u12 u13 u14 u15 K c0 c1 FU i c2 c3 (by unfold FU; omega)).trans ?_
      rw [← h]
      rfl
    · simp [Tr.run] at h
  · unfold T13_1 at h
    cases hs:shape 81 [2,7] st.slots with
    | false => rw [hs] at h; simp [Tr.run] at h
    | true =>
    rw [hs] at h
    simp only [cond_true] at h
    have he:=shape_eq hs
    obtain ⟨sl0,H⟩:=st
    dsimp only at h he ⊢
    split at h
    · rename_i i k f t path name b c a ti p1 b2 cm2 a2 ti2 p2 p3 steps u0 u1 u2 u3 u4 u5 u6 u7 u8 u9 u10 u11 u12 u13 u14 u15 g0_ g1_
      simp only [List.map_cons,List.map_nil,g0_,g1_] at he
      subst he
      simp only [Tr.run] at h
      cases hc:(decide (steps.length ≤ 25) && decide (steps.all (okStep ML kk) = true) && decide (0 ≤ i) && decide (i ≤ steps.length)) with
      | false => rw [hc] at h; simp at h
      | true =>
      rw [hc] at h
      simp only [Bool.and_eq_true,decide_eq_true_eq] at hc
      obtain ⟨⟨⟨c0,c1⟩,c2⟩,c3⟩:=hc
      refine (loop13_1 FU kk k f t path name b c a ti p1 b2 cm2 a2 ti2 p2 p3 steps u0 u1 u2 u3 u4 u5 u6 u7 u8 u9 u10 u11 u12 u13 u14 u15 K c0 c1 FU i c2 c3 (by unfold FU; omega)).trans ?_
      rw [← h]
      rfl
    · simp [Tr.run] at h
theorem ok55 (W0:World):∀ kk,EKOk Tryz.prog W0 55 (.pure (S55 kk)):=by
  intro kk
  induction kk with
  | zero => exact ek_void W0 fn55 S55_zero
  | succ kk ih => exact ok55s W0 kk ih
end Go.PS
end

section
namespace Go.PS
open Go.Proofs
set_option maxRecDepth 100000
theorem fn13:FnOk Tryz.prog 13 81 [.tmp 4] (body Tryz.f13):=⟨Tryz.f13,Tryz.func13,bodySome _ (by kernel_rfl),by kernel_rfl,by kernel_rfl,by kernel_rfl,by kernel_rfl⟩
theorem run13 (F:Nat) (kk:Nat) (l:List DV) (k f t:Int) (path name b:Str) (c:Int) (a:Bool) (ti p1:Int) (b2:Str) (cm2:Int) (a2:Bool) (ti2 p2
 p3:Int) (steps:List DV):runP (ctx F [(55,.pure (S55 kk)),(56,.pure S56)]) (L13 kk) 81 [.tmp 4] (body Tryz.f13) [.d (.agg [.int .i64 k,.int .i64 f,.int
 .i64 t,.str path,.str name,.str b,.int .i64 c,.bool a,.int .i64 ti,.int .i64 p1,.str b2,.int .i64 cm2,.bool a2,.int .i64 ti2,.int .i64 p2,.int .i64
 p3,.slc 12 steps]),.d (.slc 2 l)] = Tr.val (.cnd (decide ((↑steps.length:Int) > 25)) (.ok (PV.d (.bool false))) (.cnd (decide ((↑l.length:Int) > 30)) (.ok
 (PV.d (.bool false))) (.cnd (decide (IntKind.i64.wrap (IntKind.i64.wrap (IntKind.i64.wrap ((↑(List.length path):Int) + (↑(List.length name):Int)) +
 (↑(List.length b):Int)) + (↑(List.length b2):Int)) > 500)) (.ok (PV.d (.bool false))) (.chk (decide (l.length ≤ 30) && decide (l.all (okCn ML) = true) &&
 decide (0 ≤ 0) && decide (0 ≤ (↑l.length:Int))) (.cnd ((List.drop (Int.toNat 0) l).all shortC) (.chk (decide (steps.length ≤ 25) && decide (steps.all (okStep
 ML kk) = true) && decide (0 ≤ 0) && decide (0 ≤ (↑steps.length:Int))) (.cnd ((List.drop (Int.toNat 0) steps).all stepF) (.ok (PV.d (.bool true))) (.ok (PV.d
 (.bool false))))) (.ok (PV.d (.bool false)))))))):=by kernel_rfl
end Go.PS
end

section
namespace Go.PS
open Go.Proofs
set_option linter.all false
theorem ok13 (W0:World) (kk:Nat):EKOk Tryz.prog W0 13 (.pure (S13 kk)):=by
  refine pure_of (tyOk FU [(55,.pure (S55 kk)),(56,.pure S56)]) (look_ok (all_cons (ok55 W0 kk) (all_cons (ok56 W0) all_nil))) mixed fn13 (lps13 FU rfl kk) fun args r h => ?_
  unfold S13 at h
  split at h
  · rename_i k f t path name b c a ti p1 b2 cm2 a2 ti2 p2 p3 steps l
    refine (run13 FU kk l k f t path name b c a ti p1 b2 cm2 a2 ti2 p2 p3 steps).trans (Eq.trans ?_ h)
    simp only [Tr.val_chk,chk_some,Bool.and_eq_true,decide_eq_true_eq] at h
    obtain ⟨⟨⟨⟨⟨c0,c1⟩,c2⟩,c3⟩,c4⟩,c5⟩:=h.1
    clear h
    have w1:IntKind.i64.wrap ((path.length:Int) + name.length) = (path.length:Int) + name.length:=wrap64 (by omega) (by omega)
    have w2:IntKind.i64.wrap ((path.length:Int) + name.length + b.length) = (path.length:Int) + name.length + b.length:=wrap64 (by omega) (by omega)
    have w3:IntKind.i64.wrap ((path.length:Int) + name.length + b.length + b2.length) = (path.length:Int) + name.length + b.length + b2.length:=wrap64 (by omega) (by omega)
    have e1:(steps.length:Int) > 25 ↔ ¬ (steps.length ≤ 25):=by omega
    have e2:(l.length:Int) > 30 ↔ ¬ (l.length ≤ 30):=by omega
    have e3:(path.length:Int) + name.length + b.length + b2.length > 500 ↔ ¬ (path.length + name.length + b.length + b2.length ≤ 500):=by omega
    have e4:fewV path name b b2 steps l = (decide (steps.length ≤ 25) && decide (l.length ≤ 30) && decide (path.length + name.length + b.length + b2.length ≤ 500) && l.all shortC && steps.all stepF):=rfl
    simp only [Tr.val_ok,Tr.val_cnd,Tr.val_chk,cnd_i,chk_i,Bool.and_eq_true,decide_eq_true_eq,List.drop_zero,Int.toNat_zero,w1,w2,w3,e1,e2,e3,e4,c0,c1,c2,c3,c4,c5,Int.le_refl,Int.natCast_nonneg,and_self,and_true,if_true]
    generalize l.all shortC = x1
    generalize steps.all stepF = x2
    by_cases q1:steps.length ≤ 25
    · by_cases q2:l.length ≤ 30
      · by_cases q3:path.length + name.length + b.length + b2.length ≤ 500
        · cases x1 <;> cases x2 <;> simp [q1,q2,q3]
        · simp [q1,q2,q3]
      · simp [q1,q2]
    · simp [q1]
  · simp [Tr.val_no] at h
end Go.PS
end

section
namespace Go.PS
open Go.Proofs
set_option linter.all false
def S64:List PV → Tr PV
  | [.d (.str s),.d (.int .i64 k)] => .ok (.d (mkCn s k))
  | _ => .no
def S19x:List PV → Tr PV
  | [.d (.agg [.int .i64 k,.int .i64 f,.int .i64 t,.str path,.str name,.str b,.int .i64 c,.bool a,.int .i64 ti,.int .i64 p1,.str b2,.int .i64 cm2,.bool a2,.int .i64 ti2,.int .i64 p2,.int .i64 p3])] => .ok (.own 2 (srcC k))
  | _ => .no
def cnQ (l:List DV):List DV → Int → Bool
  | [],_ => true
  | v :: r,i => if i ≤ 16 then cn1 v && !decide (findC l (cS v 0) < i) && cnQ l r (i + 1) else true
theorem cnQ_drop {l xs:List DV} {i:Int} (h0:0 ≤ i) (h:i < xs.length):cnQ l (xs.drop i.toNat) i = if i ≤ 16 then cn1 (gt .nili xs i.toNat) && !decide (findC l (atS xs i.toNat 0) < i) && cnQ l (xs.drop (i + 1).toNat) (i + 1) else true:=by
  rw [drop_gt h0 h]; rfl
theorem find_le {pre r:List DV} {v:DV}:findC (pre ++ v :: r) (cS v 0) ≤ pre.length:=by
  unfold findC
  rw [idxP_append]
  split
  · obtain h | h:=idxP_ge (fun x => decide (cS x 0 = cS v 0)) pre 0 (by omega)
    · rw [h]; omega
    · obtain ⟨j,h1,h2,_⟩:=idxP_get (fun x => decide (cS x 0 = cS v 0)) pre 0 (by omega) h
      rw [h2]; omega
  · unfold idxP; rw [if_pos (by simp)]; omega
theorem cnQ_eq:∀ (r pre:List DV),pre.length + r.length ≤ 16 → cnQ (pre ++ r) r pre.length = cnAll (pre ++ r) r pre.length:=by
  intro r
  induction r with
  | nil => intro pre _; rfl
  | cons v r ih =>
    intro pre hl
    simp only [List.length_cons] at hl
    have h:=ih (pre ++ [v]) (by simp; omega)
    rw [List.append_assoc,List.singleton_append,List.length_append,List.length_singleton] at h
    unfold cnQ cnAll
    rw [if_pos (by omega),show ((pre.length:Int) + 1) = ((pre.length + 1:Nat):Int) by push_cast; rfl,h]
    have e:=find_le (pre:=pre) (r:=r) (v:=v)
    have e2:(!decide (findC (pre ++ v :: r) (cS v 0) < pre.length)) = decide (findC (pre ++ v :: r) (cS v 0) = pre.length):=by
      by_cases q:findC (pre ++ v :: r) (cS v 0) = pre.length
      · simp [q]
      · have:findC (pre ++ v :: r) (cS v 0) < pre.length:=by omega
        simp [q,this]
    rw [e2]
theorem rightC_Q (l:List DV):rightC l = (cnQ l l 0 && (decide (1 ≤ l.length) && decide (l.length ≤ 16))):=by
  unfold rightC
  by_cases q:l.length ≤ 16
  · have:=cnQ_eq l [] (by simpa using q)
    rw [List.nil_append,List.length_nil,show ((0:Nat):Int) = 0 from rfl] at this
    rw [this,Bool.and_comm]
  · simp [q]
def S61:List PV → Tr PV
  | [.d (.slc 2 l)] => .chk (l.all (okCn big) && decide (l.length ≤ big)) (.ok (.d (.bool (rightC l))))
  | _ => .no
def S67 (B kk:Nat):List PV → Tr PV
  | [.d (.slc 2 l),.d v] => .chk (l.all (okCn big) && decide (l.length ≤ big) && okC B kk v && decide (B ≤ big)) (.ok (.tup [.d (.int .i64 (whereQ l kk v).1),.d (.int .i64 (whereQ l kk v).2)]))
  | _ => .no
theorem S67_zero (B:Nat) (args:List PV) (v:PV):(S67 B 0 args).val ≠ some v:=by
  unfold S67
  split
  · rw [okC_zero]; simp [Tr.val_chk]
  · simp [Tr.val_no]
def S68 (B:Nat):List PV → Tr PV
  | [.d (.slc 2 l),.d (.slc 3 cols),.d (.bool once)] => .chk (l.all (okCn big) && decide (l.length ≤ big) && cols.all (okCol B) && decide (cols.length ≤ B) && decide (B ≤ big))
      (.cnd (decide ((namedG l once cols []).2.2 = 0)) (.ok (.tup [.own 2 (namedG l once cols []).1,.d (.int .i64 0),.d (.int .i64 0)])) (.ok (.tup [.own 2 [],.d (.int .i64 (namedG l once cols []).2.1),.d (.int .i64 (namedG l once cols []).2.2)])))
  | _ => .no
def T23_0 (st:St):Tr (Ex × St) :=
  bif shape 20 [0,1,5] st.slots then
    match gt .undef st.slots 0,gt .undef st.slots 1,gt .undef st.slots 5,st.heap with
    | .d (.slc 2 l),.d (.str s),.d (.int .i64 i),[] =>
      .chk (decide (l.length ≤ big) && decide (l.all (okCn ML) = true) && decide (0 ≤ i) && decide (i ≤ l.length)) (.cnd (decide (0 ≤ idxP (fun x => decide (cS x 0 = s)) (l.drop i.toNat) i)) (.ok (.ret,⟨slots 20 [(4,.d (.int .i64 (idxP (fun x => decide (cS x 0 = s)) (l.drop i.toNat) i)))],[]⟩)) (.ok (.exit 0,⟨slots 20 [],[]⟩)))
    | _,_,_,_ => .no
  else .no
def L23:Lps:=fun i => bif Nat.beq i 2 then some (allBut 20 [0,1,5],allBut 20 [4],T23_0) else none
def T61_0 (st:St):Tr (Ex × St) :=
  bif shape 56 [0,3] st.slots then
    match gt .undef st.slots 0,gt .undef st.slots 3,st.heap with
    | .d (.slc 2 l),.d (.int .i64 i),[] =>
      .chk (decide (l.length ≤ big) && decide (l.all (okCn big) = true) && decide (0 ≤ i) && decide (i ≤ l.length)) (.cnd (cnQ l (l.drop i.toNat) i) (.ok (.exit 0,⟨slots 56 [(0,.d (.slc 2 l))],[]⟩)) (.ok (.ret,⟨slots 56 [(0,.d (.slc 2 l)),(2,.d (.bool false))],[]⟩)))
    | _,_,_ => .no
  else .no
def L61:Lps:=fun i => bif Nat.beq i 2 then some (allBut 56 [0,3],allBut 56 [0,2],T61_0) else none
def T67_0 (B kk:Nat) (st:St):Tr (Ex × St) :=
  bif shape 68 [0,3,6] st.slots then
    match gt .undef st.slots 0,gt .undef st.slots 3,gt .undef st.slots 6,st.heap with
    | .d (.slc 2 l),.ptr 0 0,.d (.int .i64 i),[.cells [.d (.int .i64 k),.d (.str c),.d (.int .i64 vk),.d (.int .i64 vn),.d (.str vs),.d (.slc 7 L),.d (.int .i64 p)]] =>
      .chk (decide (L.length ≤ big) && decide (l.all (okCn big) = true) && decide (l.length ≤ big) && decide (B ≤ big) && decide (L.all (okC B kk) = true) && decide (0 ≤ i) && decide (i ≤ L.length)) (.cnd (decide ((firstF (whereQ l kk) (L.drop i.toNat)).2 = 0)) (.ok (.exit 0,⟨slots 68 [],[.cells [.d (.int .i64 k),.d (.str c),.d (.int .i64 vk),.d (.int .i64 vn),.d (.str vs),.d (.slc 7 L),.d (.int .i64 p)]]⟩)) (.ok (.ret,⟨slots 68 [(4,.d (.int .i64 (firstF (whereQ l kk) (L.drop i.toNat)).1)),(5,.d (.int .i64 (firstF (whereQ l kk) (L.drop i.toNat)).2))],[.cells [.d (.int .i64 k),.d (.str c),.d (.int .i64 vk),.d (.int .i64 vn),.d (.str vs),.d (.slc 7 L),.d (.int .i64 p)]]⟩)))
    | _,_,_,_ => .no
  else .no
def L67 (B kk:Nat):Lps:=fun i => bif Nat.beq i 3 then some (allBut 68 [0,3,6],allBut 68 [4,5],T67_0 B kk) else none
def T68_0 (B:Nat) (st:St):Tr (Ex × St) :=
  bif shape 56 [0,1,2,9,10] st.slots then
    match gt .undef st.slots 0,gt .undef st.slots 1,gt .undef st.slots 2,gt .undef st.slots 9,gt .undef st.slots 10,st.heap with
    | .d (.slc 2 l),.d (.slc 3 cols),.d (.bool once),.own 2 out,.d (.int .i64 i),[] =>
      .chk (decide (cols.length ≤ B) && decide (cols.all (okCol B) = true) && decide (l.all (okCn big) = true) && decide (l.length ≤ big) && decide (B ≤ big) && decide (out.all (okCn big) = true) && decide ((out.length:Int) = i) && decide (0 ≤ i) && decide (i ≤ cols.length)) (.cnd (decide ((namedP l once (cols.drop i.toNat) out).2.2 = 0)) (.ok (.exit 0,⟨slots 56 [(9,.own 2 (namedP l once (cols.drop i.toNat) out).1)],[]⟩)) (.ok (.ret,⟨slots 56 [(6,.own 2 []),(7,.d (.int .i64 (namedP l once (cols.drop i.toNat) out).2.1)),(8,.d (.int .i64 (namedP l once (cols.drop i.toNat) out).2.2)),(9,.own 2 (namedP l once (cols.drop i.toNat) out).1)],[]⟩)))
    | _,_,_,_,_,_ => .no
  else .no
def L68 (B:Nat):Lps:=fun i => bif Nat.beq i 3 then some (allBut 56 [0,1,2,9,10],allBut 56 [6,7,8,9],T68_0 B) else none
end Go.PS
end

section
namespace Go.PS
open Go.Proofs
set_option maxRecDepth 100000
theorem fn64:FnOk Tryz.prog 64 8 [.cell 4 104] (body Tryz.f64):=⟨Tryz.f64,Tryz.func64,bodySome _ (by kernel_rfl),by kernel_rfl,by kernel_rfl,by kernel_rfl,by kernel_rfl⟩
theorem run64 (F:Nat) (s:Str) (k:Int):runP (ctx F []) noL 8 [.cell 4 104] (body Tryz.f64) [.d (.str s),.d (.int .i64 k)] = Tr.val (.ok (PV.d (DV.agg
 [.str s,.int .i64 k]))):=by kernel_rfl
theorem fn19:FnOk Tryz.prog 19 60 [.tmp 2] (body Tryz.f19):=⟨Tryz.f19,Tryz.func19,bodySome _ (by kernel_rfl),by kernel_rfl,by kernel_rfl,by kernel_rfl,by kernel_rfl⟩
theorem run19 (F:Nat) (k f t:Int) (path name b:Str) (c:Int) (a:Bool) (ti p1:Int) (b2:Str) (cm2:Int) (a2:Bool) (ti2 p2 p3:Int):runP (ctx F
 [(64,.pure S64)]) noL 60 [.tmp 2] (body Tryz.f19) [.d (.agg [.int .i64 k,.int .i64 f,.int .i64 t,.str path,.str name,.str b,.int .i64 c,.bool a,.int
 .i64 ti,.int .i64 p1,.str b2,.int .i64 cm2,.bool a2,.int .i64 ti2,.int .i64 p2,.int .i64 p3])] = Tr.val (.cnd (decide (k = 1)) (.ok (PV.own 2 [DV.agg
 [.str ([112,97,116,104]:List UInt8),.int .i64 (2)],DV.agg [.str ([102,114,111,109]:List UInt8),.int .i64 (1)],DV.agg [.str ([116,111]:List
 UInt8),.int .i64 (1)],DV.agg [.str ([118,97,108,117,101]:List UInt8),.int .i64 (3)]])) (.cnd (decide (k = 3)) (.ok (PV.own 2 [DV.agg [.str ([112,97,
 116,104]:List UInt8),.int .i64 (2)],DV.agg [.str ([102,114,111,109]:List UInt8),.int .i64 (1)],DV.agg [.str ([116,111]:List UInt8),.int .i64
 (1)],DV.agg [.str ([118,97,108,117,101]:List UInt8),.int .i64 (3)]])) (.cnd (decide (k = 2)) (.ok (PV.own 2 [DV.agg [.str ([112,97,116,104]:List
 UInt8),.int .i64 (2)],DV.agg [.str ([118,97,108,117,101]:List UInt8),.int .i64 (3)]])) (.cnd (decide (k = 4)) (.ok (PV.own 2 [DV.agg [.str ([99,111,
 109,109,105,116]:List UInt8),.int .i64 (1)],DV.agg [.str ([115,116,97,109,112]:List UInt8),.int .i64 (1)],DV.agg [.str ([107,105,110,100] :
 List UInt8),.int .i64 (2)]])) (.cnd (decide (k = 5)) (.ok (PV.own 2 [DV.agg [.str ([112,97,116,104]:List UInt8),.int .i64 (2)],DV.agg [.str ([107,105,
 110,100]:List UInt8),.int .i64 (2)]])) (.cnd (decide (k = 6)) (.ok (PV.own 2 [DV.agg [.str ([112,97,116,104]:List UInt8),.int .i64 (2)],DV.agg [.str
 ([99,111,109,109,105,116]:List UInt8),.int .i64 (1)],DV.agg [.str ([115,116,97,109,112]:List UInt8),.int .i64 (1)]])) (.cnd (decide (k = 7)) (.ok
 (PV.own 2 [DV.agg [.str ([99,111,109,109,105,116]:List UInt8),.int .i64 (1)],DV.agg [.str ([115,116,97,109,112]:List UInt8),.int .i64 (1)],
 DV.agg [.str ([110,111,116,101]:List UInt8),.int .i64 (2)]])) (.cnd (decide (k = 8)) (.ok (PV.own 2 [DV.agg [.str ([99,111,109,109,105,116]:List
 UInt8),.int .i64 (1)],DV.agg [.str ([115,116,97,109,112]:List UInt8),.int .i64 (1)]])) (.ok (PV.own 2 [])))))))))):=by kernel_rfl
theorem round23_0 (F:Nat) {R:Type} (l:List DV) (s:Str) (i:Int) (K:Ex → St → Option R) (G:St → Option R):roundK (pcodeK (ctx F []) noL (lp
 Tryz.f23 0)) 0 (allBut 20 [0,1,5] ++ temps (lp Tryz.f23 0)) (allBut 20 [4]) ⟨slots 20 [(0,.d (.slc 2 l)),(1,.d (.str s)),(5,.d (.int .i64 i))],[]⟩ K G =
 Tr.run (.cnd (decide (i < (↑l.length:Int))) (.chk (decide (0 ≤ i)) (.chk (decide (i.toNat < l.length)) (.chk (fits [.str [],.int .i64 0] (gt DV.nili l
 i.toNat).cells) (.cnd (decide (atS l i.toNat 0 = s)) (.ok (.inl (Ex.ret,⟨slots 20 [(4,.d (.int .i64 i))],[]⟩))) (.ok (.inr ⟨slots 20 [(0,.d (.slc 2 l)),(1,
 .d (.str s)),(5,.d (.int .i64 (IntKind.i64.wrap (i + 1))))],[]⟩)))))) (.ok (.inl (Ex.exit 0,⟨slots 20 [],[]⟩)))) (rnd K G):=by kernel_rfl
theorem fn23:FnOk Tryz.prog 23 20 [.tmp 4] (body Tryz.f23):=⟨Tryz.f23,Tryz.func23,bodySome _ (by kernel_rfl),by kernel_rfl,by kernel_rfl,by kernel_rfl,by kernel_rfl⟩
theorem run23 (F:Nat) (l:List DV) (s:Str):runP (ctx F []) L23 20 [.tmp 4] (body Tryz.f23) [.d (.slc 2 l),.d (.str s)] = Tr.val (.chk (decide (l.length ≤
 big) && decide (l.all (okCn ML) = true) && decide (0 ≤ 0) && decide (0 ≤ (↑l.length:Int))) (.cnd (decide (0 ≤ idxP (fun x ↦ decide (cS x 0 = s)) (List.drop
 (Int.toNat 0) l) 0)) (.ok (PV.d (.int .i64 (idxP (fun x ↦ decide (cS x 0 = s)) (List.drop (Int.toNat 0) l) 0)))) (.ok (PV.d (.int .i64 (Int.negSucc 0)))))):=by
 kernel_rfl
theorem round61_0 (F:Nat) {R:Type} (l:List DV) (i:Int) (K:Ex → St → Option R) (G:St → Option R):roundK (pcodeK (ctx F [(36,.pure S35),(23,.pure
 S22)]) noL (lp Tryz.f61 0)) 0 (allBut 56 [0,3] ++ temps (lp Tryz.f61 0)) (allBut 56 [0,2]) ⟨slots 56 [(0,.d (.slc 2 l)),(3,.d (.int .i64 i))],[]⟩ K G =
 Tr.run (.cnd (decide (i < (↑l.length:Int))) (.cnd (decide (i ≤ 16)) (.chk (decide (0 ≤ i)) (.chk (decide (i.toNat < l.length)) (.chk (fits [.str [],.int .i64
 0] (gt DV.nili l i.toNat).cells) (.chk (decide ((atS l i.toNat 0).length ≤ big)) (.cnd (!nameB (atS l i.toNat 0)) (.ok (.inl (Ex.ret,⟨slots 56 [(0,.d (.slc 2
 l)),(2,.d (.bool false))],[]⟩))) (.chk (decide (0 ≤ i)) (.chk (decide (i.toNat < l.length)) (.chk (fits [.str [],.int .i64 0] (gt DV.nili l i.toNat).cells)
 (.cnd (decide (atI l i.toNat (0 + 1) < 1)) (.ok (.inl (Ex.ret,⟨slots 56 [(0,.d (.slc 2 l)),(2,.d (.bool false))],[]⟩))) (.chk (decide (0 ≤ i)) (.chk (decide
 (i.toNat < l.length)) (.chk (fits [.str [],.int .i64 0] (gt DV.nili l i.toNat).cells) (.cnd (decide (atI l i.toNat (0 + 1) > 3)) (.ok (.inl (Ex.ret,⟨slots 56
 [(0,.d (.slc 2 l)),(2,.d (.bool false))],[]⟩))) (.chk (decide (0 ≤ i)) (.chk (decide (i.toNat < l.length)) (.chk (fits [.str [],.int .i64 0] (gt DV.nili l
 i.toNat).cells) (.chk (l.all (okCn ML) && decide (l.length ≤ big)) (.cnd (decide (findC l (atS l i.toNat 0) < i)) (.ok (.inl (Ex.ret,⟨slots 56 [(0,.d (.slc 2
 l)),(2,.d (.bool false))],[]⟩))) (.ok (.inr ⟨slots 56 [(0,.d (.slc 2 l)),(3,.d (.int .i64 (IntKind.i64.wrap (i + 1))))],[]⟩)))))))))))))))))))) (.ok (.inl
 (Ex.exit 0,⟨slots 56 [(0,.d (.slc 2 l))],[]⟩)))) (.ok (.inl (Ex.exit 0,⟨slots 56 [(0,.d (.slc 2 l))],[]⟩)))) (rnd K G):=by kernel_rfl
theorem fn61:FnOk Tryz.prog 61 56 [.tmp 2] (body Tryz.f61):=⟨Tryz.f61,Tryz.func61,bodySome _ (by kernel_rfl),by kernel_rfl,by kernel_rfl,by kernel_rfl,by kernel_rfl⟩
theorem run61 (F:Nat) (l:List DV):runP (ctx F [(36,.pure S35),(23,.pure S22)]) L61 56 [.tmp 2] (body Tryz.f61) [.d (.slc 2 l)] = Tr.val (.chk (decide
 (l.length ≤ big) && decide (l.all (okCn big) = true) && decide (0 ≤ 0) && decide (0 ≤ (↑l.length:Int))) (.cnd (cnQ l (List.drop (Int.toNat 0) l) 0) (.cnd
 (decide ((↑l.length:Int) ≥ 1)) (.ok (PV.d (.bool (decide ((↑l.length:Int) ≤ 16))))) (.ok (PV.d (.bool false)))) (.ok (PV.d (.bool false))))):=by kernel_rfl
theorem fn21:FnOk Tryz.prog 21 6 [.tmp 2] (body Tryz.f21):=⟨Tryz.f21,Tryz.func21,bodySome _ (by kernel_rfl),by kernel_rfl,by kernel_rfl,by kernel_rfl,by kernel_rfl⟩
theorem run21 (F:Nat) (l:List DV):runP (ctx F [(61,.pure S61)]) noL 6 [.tmp 2] (body Tryz.f21) [.d (.slc 2 l)] = Tr.val (.chk (l.all (okCn big) && decide
 (l.length ≤ big)) (.cnd (!rightC l) (.ok (PV.d (.int .i64 (2)))) (.ok (PV.d (.int .i64 (0)))))):=by kernel_rfl
theorem round67_0 (F:Nat) {R:Type} (B kk:Nat) (l:List DV) (i:Int) (k:Int) (c:Str) (vk vn:Int) (vs:Str) (L:List DV) (p:Int) (K:Ex → St →
 Option R) (G:St → Option R):roundK (pcodeK (ctx F [(23,.pure S22),(67,.pure (S67 B kk))]) noL (lp Tryz.f67 0)) 1 (allBut 68 [0,3,6] ++ temps (lp
 Tryz.f67 0)) (allBut 68 [4,5]) ⟨slots 68 [(0,.d (.slc 2 l)),(3,.ptr 0 0),(6,.d (.int .i64 i))],[.cells [.d (.int .i64 k),.d (.str c),.d (.int .i64 vk),
 .d (.int .i64 vn),.d (.str vs),.d (.slc 7 L),.d (.int .i64 p)]]⟩ K G = Tr.run (.cnd (decide (i < (↑L.length:Int))) (.chk (decide (0 ≤ i)) (.chk (decide
 (i.toNat < L.length)) (.chk (fits [.int .i64 0,.str [],.int .i64 0,.int .i64 0,.str [],.nils 7,.int .i64 0] (gt DV.nili L i.toNat).cells) (.chk (l.all
 (okCn big) && decide (l.length ≤ big) && okC B kk (DV.agg [view L i.toNat 0 (.int .i64 0),view L i.toNat (0 + 1) (.str []),view L i.toNat (0 + 1 + 1) (.int
 .i64 0),view L i.toNat (0 + 1 + 1 + 1) (.int .i64 0),view L i.toNat (0 + 1 + 1 + 1 + 1) (.str []),view L i.toNat (0 + 1 + 1 + 1 + 1 + 1) (.nils 7),view L
 i.toNat (0 + 1 + 1 + 1 + 1 + 1 + 1) (.int .i64 0)]) && decide (B ≤ big)) (.cnd (!decide ((whereQ l kk (DV.agg [view L i.toNat 0 (.int .i64 0),view L i.toNat (0
 + 1) (.str []),view L i.toNat (0 + 1 + 1) (.int .i64 0),view L i.toNat (0 + 1 + 1 + 1) (.int .i64 0),view L i.toNat (0 + 1 + 1 + 1 + 1) (.str []),view L
 i.toNat (0 + 1 + 1 + 1 + 1 + 1) (.nils 7),view L i.toNat (0 + 1 + 1 + 1 + 1 + 1 + 1) (.int .i64 0)])).snd = 0)) (.ok (.inl (Ex.ret,⟨slots 68 [(4,.d (.int .i64
 (whereQ l kk (DV.agg [view L i.toNat 0 (.int .i64 0),view L i.toNat (0 + 1) (.str []),view L i.toNat (0 + 1 + 1) (.int .i64 0),view L i.toNat (0 + 1 + 1 + 1)
 (.int .i64 0),view L i.toNat (0 + 1 + 1 + 1 + 1) (.str []),view L i.toNat (0 + 1 + 1 + 1 + 1 + 1) (.nils 7),view L i.toNat (0 + 1 + 1 + 1 + 1 + 1 + 1) (.int
 .i64 0)])).fst)),(5,.d (.int .i64 (whereQ l kk (DV.agg [view L i.toNat 0 (.int .i64 0),view L i.toNat (0 + 1) (.str []),view L i.toNat (0 + 1 + 1) (.int .i64
 0),view L i.toNat (0 + 1 + 1 + 1) (.int .i64 0),view L i.toNat (0 + 1 + 1 + 1 + 1) (.str []),view L i.toNat (0 + 1 + 1 + 1 + 1 + 1) (.nils 7),view L i.toNat
 (0 + 1 + 1 + 1 + 1 + 1 + 1) (.int .i64 0)])).snd))],[PObj.cells [.d (.int .i64 k),.d (.str c),.d (.int .i64 vk),.d (.int .i64 vn),.d (.str vs),.d (.slc 7
 L),.d (.int .i64 p)]]⟩))) (.ok (.inr ⟨slots 68 [(0,.d (.slc 2 l)),(3,PV.ptr 0 0),(6,.d (.int .i64 (IntKind.i64.wrap (i + 1))))],[PObj.cells [.d (.int .i64
 k),.d (.str c),.d (.int .i64 vk),.d (.int .i64 vn),.d (.str vs),.d (.slc 7 L),.d (.int .i64 p)]]⟩))))))) (.ok (.inl (Ex.exit 0,⟨slots 68 [],[PObj.cells
 [.d (.int .i64 k),.d (.str c),.d (.int .i64 vk),.d (.int .i64 vn),.d (.str vs),.d (.slc 7 L),.d (.int .i64 p)]]⟩)))) (rnd K G):=by kernel_rfl
theorem fn67:FnOk Tryz.prog 67 68 [.tmp 4,.tmp 5] (body Tryz.f67):=⟨Tryz.f67,Tryz.func67,bodySome _ (by kernel_rfl),by kernel_rfl,by kernel_rfl,by kernel_rfl,by kernel_rfl⟩
theorem run67 (F:Nat) (B kk:Nat) (l:List DV) (k:Int) (c:Str) (vk vn:Int) (vs:Str) (L:List DV) (p:Int):runP (ctx F [(23,.pure S22),(67,
 .pure (S67 B kk))]) (L67 B kk) 68 [.tmp 4,.tmp 5] (body Tryz.f67) [.d (.slc 2 l),.d (.agg [.int .i64 k,.str c,.int .i64 vk,.int .i64 vn,.str vs,.slc 7 L,
 .int .i64 p])] = Tr.val (.cnd (decide (k ≤ 3)) (.chk (decide (L.length ≤ big) && decide (l.all (okCn big) = true) && decide (l.length ≤ big) && decide (B ≤ big)
 && decide (L.all (okC B kk) = true) && decide (0 ≤ 0) && decide (0 ≤ (↑L.length:Int))) (.cnd (decide ((firstF (whereQ l kk) (List.drop (Int.toNat 0) L)).snd =
 0)) (.ok (PV.tup [.d (.int .i64 (0)),.d (.int .i64 (0))])) (.ok (PV.tup [.d (.int .i64 (firstF (whereQ l kk) (List.drop (Int.toNat 0) L)).fst),.d (.int .i64
 (firstF (whereQ l kk) (List.drop (Int.toNat 0) L)).snd)])))) (.chk (l.all (okCn ML) && decide (l.length ≤ big)) (.cnd (decide (findC l c < 0)) (.ok (PV.tup [.d
 (.int .i64 p),.d (.int .i64 (13))])) (.chk (decide (0 ≤ findC l c)) (.chk (decide ((findC l c).toNat < l.length)) (.chk (fits [.str [],.int .i64 0] (gt DV.nili
 l (findC l c).toNat).cells) (.cnd (!decide (atI l (findC l c).toNat (0 + 1) = 3)) (.cnd (!decide (atI l (findC l c).toNat (0 + 1) = vk)) (.ok (PV.tup [.d (.int
 .i64 p),.d (.int .i64 (12))])) (.cnd (decide (k = 10)) (.cnd (decide (atI l (findC l c).toNat (0 + 1) = 1)) (.ok (PV.tup [.d (.int .i64 p),.d (.int .i64
 (12))])) (.ok (PV.tup [.d (.int .i64 (0)),.d (.int .i64 (0))]))) (.ok (PV.tup [.d (.int .i64 (0)),.d (.int .i64 (0))])))) (.cnd (decide (k = 10)) (.cnd (decide
 (atI l (findC l c).toNat (0 + 1) = 1)) (.ok (PV.tup [.d (.int .i64 p),.d (.int .i64 (12))])) (.ok (PV.tup [.d (.int .i64 (0)),.d (.int .i64 (0))]))) (.ok
 (PV.tup [.d (.int .i64 (0)),.d (.int .i64 (0))])))))))))):=by kernel_rfl
theorem round68_0 (F:Nat) {R:Type} (l cols out:List DV) (once:Bool) (i:Int) (K:Ex → St → Option R) (G:St → Option R):roundK (pcodeK (ctxL F [(23,
 .pure S22)]) noL (lp Tryz.f68 0)) 0 (allBut 56 [0,1,2,9,10] ++ temps (lp Tryz.f68 0)) (allBut 56 [6,7,8,9]) ⟨slots 56 [(0,.d (.slc 2 l)),(1,.d (.slc 3
 cols)),(2,.d (.bool once)),(9,.own 2 out),(10,.d (.int .i64 i))],[]⟩ K G = Tr.run (.cnd (decide (i < (↑cols.length:Int))) (.chk (decide (0 ≤ i)) (.chk
 (decide (i.toNat < cols.length)) (.chk (fits [.str [],.bool false,.int .i64 0] (gt DV.nili cols i.toNat).cells) (.chk (l.all (okCn ML) && decide (l.length ≤
 big)) (.cnd (decide (findC l (atS cols i.toNat 0) < 0)) (.chk (decide (0 ≤ i)) (.chk (decide (i.toNat < cols.length)) (.chk (fits [.str [],.bool false,.int
 .i64 0] (gt DV.nili cols i.toNat).cells) (.ok (.inl (Ex.ret,⟨slots 56 [(6,PV.own 2 []),(7,.d (.int .i64 (atI cols i.toNat (0 + 1 + 1)))),(8,.d (.int .i64
 (13))),(9,PV.own 2 out)],[]⟩)))))) (.cnd (once) (.chk (decide (0 ≤ i)) (.chk (decide (i.toNat < cols.length)) (.chk (fits [.str [],.bool false,.int .i64 0]
 (gt DV.nili cols i.toNat).cells) (.chk (out.all (okCn ML) && decide (out.length ≤ big)) (.cnd (decide (findC out (atS cols i.toNat 0) ≥ 0)) (.chk (decide (0 ≤
 i)) (.chk (decide (i.toNat < cols.length)) (.chk (fits [.str [],.bool false,.int .i64 0] (gt DV.nili cols i.toNat).cells) (.ok (.inl (Ex.ret,⟨slots 56 [(6,
 PV.own 2 []),(7,.d (.int .i64 (atI cols i.toNat (0 + 1 + 1)))),(8,.d (.int .i64 (7))),(9,PV.own 2 out)],[]⟩)))))) (.chk (decide (0 ≤ findC l (atS cols
 i.toNat 0))) (.chk (decide ((findC l (atS cols i.toNat 0)).toNat < l.length)) (.chk (fits [.str [],.int .i64 0] (gt DV.nili l (findC l (atS cols i.toNat
 0)).toNat).cells) (.chk (limit 24 (out.length + ([DV.agg [view l (findC l (atS cols i.toNat 0)).toNat 0 (.str []),view l (findC l (atS cols i.toNat 0)).toNat (0
 + 1) (.int .i64 0)]]).length)) (.ok (.inr ⟨slots 56 [(0,.d (.slc 2 l)),(1,.d (.slc 3 cols)),(2,.d (.bool once)),(9,PV.own 2 (out ++ [DV.agg [.str (atS l
 (findC l (atS cols i.toNat 0)).toNat 0),.int .i64 (atI l (findC l (atS cols i.toNat 0)).toNat (0 + 1))]])),(10,.d (.int .i64 (IntKind.i64.wrap (i + 1))))],
 []⟩))))))))))) (.chk (decide (0 ≤ findC l (atS cols i.toNat 0))) (.chk (decide ((findC l (atS cols i.toNat 0)).toNat < l.length)) (.chk (fits [.str [],.int .i64
 0] (gt DV.nili l (findC l (atS cols i.toNat 0)).toNat).cells) (.chk (limit 24 (out.length + ([DV.agg [view l (findC l (atS cols i.toNat 0)).toNat 0 (.str []),
 view l (findC l (atS cols i.toNat 0)).toNat (0 + 1) (.int .i64 0)]]).length)) (.ok (.inr ⟨slots 56 [(0,.d (.slc 2 l)),(1,.d (.slc 3 cols)),(2,.d (.bool
 once)),(9,PV.own 2 (out ++ [DV.agg [.str (atS l (findC l (atS cols i.toNat 0)).toNat 0),.int .i64 (atI l (findC l (atS cols i.toNat 0)).toNat (0 + 1))]])),
 (10,.d (.int .i64 (IntKind.i64.wrap (i + 1))))],[]⟩)))))))))))) (.ok (.inl (Ex.exit 0,⟨slots 56 [(9,PV.own 2 out)],[]⟩)))) (rnd K G):=by kernel_rfl
theorem fn68:FnOk Tryz.prog 68 56 [.tmp 6,.tmp 7,.tmp 8] (body Tryz.f68):=⟨Tryz.f68,Tryz.func68,bodySome _ (by kernel_rfl),by kernel_rfl,by kernel_rfl,by kernel_rfl,by kernel_rfl⟩
theorem run68 (F:Nat) (B:Nat) (l cols:List DV) (once:Bool):runP (ctxL F [(23,.pure S22)]) (L68 B) 56 [.tmp 6,.tmp 7,.tmp 8] (body Tryz.f68) [.d
 (.slc 2 l),.d (.slc 3 cols),.d (.bool once)] = Tr.val (.chk (decide (cols.length ≤ B) && decide (cols.all (okCol B) = true) && decide (l.all (okCn big) = true)
 && decide (l.length ≤ big) && decide (B ≤ big) && decide ([].all (okCn big) = true) && decide ((0:Int) = 0) && decide (0 ≤ 0) && decide (0 ≤ (↑cols.length :
 Int))) (.cnd (decide ((namedP l once (List.drop (Int.toNat 0) cols) []).snd.snd = 0)) (.ok (PV.tup [PV.own 2 (namedP l once (List.drop (Int.toNat 0) cols)
 []).fst,.d (.int .i64 (0)),.d (.int .i64 (0))])) (.ok (PV.tup [PV.own 2 [],.d (.int .i64 (namedP l once (List.drop (Int.toNat 0) cols) []).snd.fst),.d (.int
 .i64 (namedP l once (List.drop (Int.toNat 0) cols) []).snd.snd)])))):=by kernel_rfl
end Go.PS
end

section
namespace Go.PS
open Go.Proofs
set_option linter.all false
theorem ok64 (W0:World):EKOk Tryz.prog W0 64 (.pure S64):=by
  refine pure_of (tyOk FU []) (look_ok all_nil) mixed fn64 (lpsOk_no _ _) fun args r h => ?_
  unfold S64 at h
  split at h
  · rename_i s k
    refine (run64 FU s k).trans (Eq.trans ?_ h)
    rfl
  · simp [Tr.val_no] at h
theorem ok19x (W0:World):EKOk Tryz.prog W0 19 (.pure S19x):=by
  refine pure_of (tyOk FU [(64,.pure S64)]) (look_ok (all_cons (ok64 W0) all_nil)) mixed fn19 (lpsOk_no _ _) fun args r h => ?_
  unfold S19x at h
  split at h
  · rename_i k f t path name b c a ti p1 b2 cm2 a2 ti2 p2 p3
    refine (run19 FU k f t path name b c a ti p1 b2 cm2 a2 ti2 p2 p3).trans (Eq.trans ?_ h)
    simp only [Tr.val_ok,Tr.val_cnd,cnd_i,decide_eq_true_eq,srcC,fieldsI]
    by_cases k1:k = 1
    · simp only [k1,if_true,true_or]; rfl
    by_cases k3:k = 3
    · simp only [k1,k3,if_true,if_false,or_true]; rfl
    by_cases k2:k = 2
    · simp only [k1,k2,k3,if_true,if_false,or_self]; rfl
    by_cases k4:k = 4
    · simp only [k1,k2,k3,k4,if_true,if_false,or_self]; rfl
    by_cases k5:k = 5
    · simp only [k1,k2,k3,k4,k5,if_true,if_false,or_self]; rfl
    by_cases k6:k = 6
    · simp only [k1,k2,k3,k4,k5,k6,if_true,if_false,or_self]; rfl
    by_cases k7:k = 7
    · simp only [k1,k2,k3,k4,k5,k6,k7,if_true,if_false,or_self]; rfl
    by_cases k8:k = 8
    · simp only [k1,k2,k3,k4,k5,k6,k7,k8,if_true,if_false,or_self]; rfl
    simp only [k1,k2,k3,k4,k5,k6,k7,k8,if_false,or_self]; rfl
  · simp [Tr.val_no] at h
theorem loop23_0 (F:Nat) {R:Type} (l:List DV) (s:Str) (K:Ex → St → Option R) (g0:l.length ≤ big) (g1:l.all (okCn ML) = true) :
    ∀ (m:Nat) (i:Int),0 ≤ i → i ≤ l.length → (l.length - i).toNat < m →
      loopK (pcodeK (ctx F []) noL (lp Tryz.f23 0)) 0 (allBut 20 [0,1,5] ++ temps (lp Tryz.f23 0)) (allBut 20 [4]) m
        ⟨slots 20 [(0,.d (.slc 2 l)),(1,.d (.str s)),(5,.d (.int .i64 i))],[]⟩ K =
      Tr.run (.cnd (decide (0 ≤ idxP (fun x => decide (cS x 0 = s)) (l.drop i.toNat) i)) (.ok (.ret,⟨slots 20 [(4,.d (.int .i64 (idxP (fun x => decide (cS x 0 = s)) (l.drop i.toNat) i)))],[]⟩)) (.ok (.exit 0,⟨slots 20 [],[]⟩))) (fun p => K p.1 p.2):=by
  intro m
  induction m with
  | zero => intro i; intros; omega
  | succ m ih =>
    intro i h0 h1 hm
    rw [loopK_succ,round23_0]
    unfold big at g0
    simp only [Tr.run,rnd,cnd_i,chk_i,Bool.and_eq_true,decide_eq_true_eq]
    by_cases hi:i < l.length
    · have w:IntKind.i64.wrap (i + 1) = i + 1:=wrap64 (by omega) (by omega)
      have hx:=all_gt g1 (i:=i) (by omega) (by omega)
      have ht:=okCn_fits hx
      have e:cS (gt .nili l i.toNat) 0 = atS l i.toNat 0:=rfl
      have ih1:=ih (i + 1)
      simp only [Tr.run,cnd_i,decide_eq_true_eq] at ih1
      rw [idx_drop (by omega) (by omega)]
      simp only [e,decide_eq_true_eq]
      clear ih
      rw [ht]
      grind
    · have:l.drop i.toNat = []:=List.drop_of_length_le (by omega)
      rw [this]
      simp [hi,idxP]
theorem lps23 (F:Nat) (hF:F = FU):LpsOk (ctx F []) L23 (loopsOf (body Tryz.f23)):=by
  subst hF
  refine lps_one (c:=lp Tryz.f23 0) rfl (by kernel_rfl) fun R st K r h => ?_
  unfold T23_0 at h
  cases hs:shape 20 [0,1,5] st.slots with
  | false => rw [hs] at h; simp [Tr.run] at h
  | true =>
  rw [hs] at h
  simp only [cond_true] at h
  have he:=shape_eq hs
  obtain ⟨sl0,H⟩:=st
  dsimp only at h he ⊢
  split at h
  · rename_i l s i g0_ g1_ g2_
    simp only [List.map_cons,List.map_nil,g0_,g1_,g2_] at he
    subst he
    simp only [Tr.run] at h
    cases hc:(decide (l.length ≤ big) && decide (l.all (okCn ML) = true) && decide (0 ≤ i) && decide (i ≤ l.length)) with
    | false => rw [hc] at h; simp at h
    | true =>
    rw [hc] at h
    simp only [Bool.and_eq_true,decide_eq_true_eq] at hc
    obtain ⟨⟨⟨c0,c1⟩,c2⟩,c3⟩:=hc
    refine (loop23_0 FU l s K c0 c1 FU i c2 c3 (by unfold FU; (try unfold big at *); omega)).trans ?_
    rw [← h]
    rfl
  · simp [Tr.run] at h
theorem ok23 (W0:World):EKOk Tryz.prog W0 23 (.pure S22):=by
  refine pure_of (tyOk FU []) (look_ok all_nil) mixed fn23 (lps23 FU rfl) fun args r h => ?_
  unfold S22 at h
  split at h
  · rename_i l s
    refine (run23 FU l s).trans (Eq.trans ?_ h)
    simp only [Tr.val_chk,chk_some,Bool.and_eq_true,decide_eq_true_eq] at h
    obtain ⟨c0,c1⟩:=h.1
    clear h
    have e:=idxP_ge (fun x => decide (cS x 0 = s)) l 0 (by omega)
    simp only [Tr.val_ok,Tr.val_cnd,Tr.val_chk,cnd_i,chk_i,Bool.and_eq_true,decide_eq_true_eq,List.drop_zero,Int.toNat_zero,findC]
    grind
  · simp [Tr.val_no] at h
theorem loop61_0 (F:Nat) {R:Type} (l:List DV) (K:Ex → St → Option R) (g0:l.length ≤ big) (g1:l.all (okCn big) = true) :
    ∀ (m:Nat) (i:Int),0 ≤ i → i ≤ l.length → (l.length - i).toNat < m →
      loopK (pcodeK (ctx F [(36,.pure S35),(23,.pure S22)]) noL (lp Tryz.f61 0)) 0 (allBut 56 [0,3] ++ temps (lp Tryz.f61 0)) (allBut 56 [0,2]) m
        ⟨slots 56 [(0,.d (.slc 2 l)),(3,.d (.int .i64 i))],[]⟩ K =
      Tr.run (.cnd (cnQ l (l.drop i.toNat) i) (.ok (.exit 0,⟨slots 56 [(0,.d (.slc 2 l))],[]⟩)) (.ok (.ret,⟨slots 56 [(0,.d (.slc 2 l)),(2,.d (.bool false))],[]⟩))) (fun p => K p.1 p.2):=by
  intro m
  induction m with
  | zero => intro i; intros; omega
  | succ m ih =>
    intro i h0 h1 hm
    rw [loopK_succ,round61_0]
    have hM:l.all (okCn ML) = true:=okCn_le g1 (by unfold big ML; omega)
    have g0':=g0
    unfold big at g0
    simp only [Tr.run,rnd,cnd_i,chk_i,Bool.and_eq_true,decide_eq_true_eq]
    by_cases hi:i < l.length
    · have w:IntKind.i64.wrap (i + 1) = i + 1:=wrap64 (by omega) (by omega)
      have hx:=all_gt g1 (i:=i) (by omega) (by omega)
      have ht:=okCn_fits hx
      have hb:(atS l i.toNat 0).length ≤ big:=by
        obtain ⟨s,k,e,h1⟩:=okCn_inv hx
        rw [atS_c,e]; exact h1
      have e:cn1 (gt .nili l i.toNat) = (nameB (atS l i.toNat 0) && (decide (1 ≤ atI l i.toNat 1) && decide (atI l i.toNat 1 ≤ 3))):=rfl
      have ih1:=ih (i + 1)
      simp only [Tr.run,cnd_i] at ih1
      rw [cnQ_drop (by omega) (by omega),e]
      clear ih
      rw [ht]
      grind
    · have:l.drop i.toNat = []:=List.drop_of_length_le (by omega)
      rw [this]
      simp [hi,cnQ]
theorem lps61 (F:Nat) (hF:F = FU):LpsOk (ctx F [(36,.pure S35),(23,.pure S22)]) L61 (loopsOf (body Tryz.f61)):=by
  subst hF
  refine lps_one (c:=lp Tryz.f61 0) rfl (by kernel_rfl) fun R st K r h => ?_
  unfold T61_0 at h
  cases hs:shape 56 [0,3] st.slots with
  | false => rw [hs] at h; simp [Tr.run] at h
  | true =>
  rw [hs] at h
  simp only [cond_true] at h
  have he:=shape_eq hs
  obtain ⟨sl0,H⟩:=st
  dsimp only at h he ⊢
  split at h
  · rename_i l i g0_ g1_
    simp only [List.map_cons,List.map_nil,g0_,g1_] at he
    subst he
    simp only [Tr.run] at h
    cases hc:(decide (l.length ≤ big) && decide (l.all (okCn big) = true) && decide (0 ≤ i) && decide (i ≤ l.length)) with
    | false => rw [hc] at h; simp at h
    | true =>
    rw [hc] at h
    simp only [Bool.and_eq_true,decide_eq_true_eq] at hc
    obtain ⟨⟨⟨c0,c1⟩,c2⟩,c3⟩:=hc
    refine (loop61_0 FU l K c0 c1 FU i c2 c3 (by unfold FU; (try unfold big at *); omega)).trans ?_
    rw [← h]
    rfl
  · simp [Tr.run] at h
theorem ok61 (W0:World) (hW:Laid W0):EKOk Tryz.prog W0 61 (.pure S61):=by
  refine pure_of (tyOk FU [(36,.pure S35),(23,.pure S22)]) (look_ok (all_cons (ok36 W0) (all_cons (ok23 W0) all_nil))) mixed fn61 (lps61 FU rfl) fun args r h => ?_
  unfold S61 at h
  split at h
  · rename_i l
    refine (run61 FU l).trans (Eq.trans ?_ h)
    simp only [Tr.val_chk,chk_some,Bool.and_eq_true,decide_eq_true_eq] at h
    obtain ⟨c0,c1⟩:=h.1
    clear h
    have e1:(l.length:Int) ≥ 1 ↔ 1 ≤ l.length:=by omega
    have e2:(l.length:Int) ≤ 16 ↔ l.length ≤ 16:=by omega
    rw [rightC_Q l]
    simp only [Tr.val_ok,Tr.val_cnd,Tr.val_chk,cnd_i,chk_i,Bool.and_eq_true,decide_eq_true_eq,List.drop_zero,Int.toNat_zero,e1,e2,c0,c1,Int.le_refl,Int.natCast_nonneg,and_self,and_true,if_true]
    generalize cnQ l l 0 = x
    by_cases q:1 ≤ l.length
    · cases x <;> simp [q]
    · cases x <;> simp [q]
  · simp [Tr.val_no] at h
theorem ok21r (W0:World) (hW:Laid W0):EKOk Tryz.prog W0 21 (.pure S20):=by
  refine pure_of (tyOk FU [(61,.pure S61)]) (look_ok (all_cons (ok61 W0 hW) all_nil)) mixed fn21 (lpsOk_no _ _) fun args r h => ?_
  unfold S20 at h
  split at h
  · rename_i l
    refine (run21 FU l).trans (Eq.trans ?_ h)
    simp only [Tr.val_chk,chk_some,Bool.and_eq_true,decide_eq_true_eq] at h
    obtain ⟨c0,c1⟩:=h.1
    clear h
    simp only [Tr.val_ok,Tr.val_cnd,Tr.val_chk,cnd_i,chk_i,c0,c1,decide_true,Bool.and_self,if_true]
    cases rightC l <;> rfl
  · simp [Tr.val_no] at h
theorem loop67_0 (F:Nat) {R:Type} (B:Nat) (kk:Nat) (l:List DV) (k:Int) (c:Str) (vk:Int) (vn:Int) (vs:Str) (L:List DV) (p:Int) (K:Ex → St → Option R) (g0:L.length ≤ big) (g1:l.all (okCn big) = true) (g2:l.length ≤ big) (g3:B ≤ big) (g4:L.all (okC B kk) = true) :
    ∀ (m:Nat) (i:Int),0 ≤ i → i ≤ L.length → (L.length - i).toNat < m →
      loopK (pcodeK (ctx F [(23,.pure S22),(67,.pure (S67 B kk))]) noL (lp Tryz.f67 0)) 1 (allBut 68 [0,3,6] ++ temps (lp Tryz.f67 0)) (allBut 68 [4,5]) m
        ⟨slots 68 [(0,.d (.slc 2 l)),(3,.ptr 0 0),(6,.d (.int .i64 i))],[.cells [.d (.int .i64 k),.d (.str c),.d (.int .i64 vk),.d (.int .i64 vn),.d (.str vs),.d (.slc 7 L),.d (.int .i64 p)]]⟩ K =
      Tr.run (.cnd (decide ((firstF (whereQ l kk) (L.drop i.toNat)).2 = 0)) (.ok (.exit 0,⟨slots 68 [],[.cells [.d (.int .i64 k),.d (.str c),.d (.int .i64 vk),.d (.int .i64 vn),.d (.str vs),.d (.slc 7 L),.d (.int .i64 p)]]⟩)) (.ok (.ret,⟨slots 68 [(4,.d (.int .i64 (firstF (whereQ l kk) (L.drop i.toNat)).1)),(5,.d (.int .i64 (firstF (whereQ l kk) (L.drop i.toNat)).2))],[.cells [.d (.int .i64 k),.d (.str c),.d (.int .i64 vk),.d (.int .i64 vn),.d (.str vs),.d (.slc 7 L),.d (.int .i64 p)]]⟩))) (fun p => K p.1 p.2):=by
  intro m
  induction m with
  | zero => intro i; intros; omega
  | succ m ih =>
    intro i h0 h1 hm
    rw [loopK_succ,round67_0]
    unfold big at g0
    simp only [Tr.run,rnd,cnd_i,chk_i,Bool.and_eq_true,decide_eq_true_eq]
    by_cases hi:i < L.length
    · have w:IntKind.i64.wrap (i + 1) = i + 1:=wrap64 (by omega) (by omega)
      have hx:=all_gt g4 (i:=i) (by omega) (by omega)
      have ht:=okC_fits hx
      rw [okC_view hx]
      have ih1:=ih (i + 1)
      simp only [Tr.run,cnd_i] at ih1
      rw [first_drop (by omega) (by omega)]
      clear ih
      rw [ht,hx]
      generalize whereQ l kk (gt .nili L i.toNat) = q at *
      grind
    · have:L.drop i.toNat = []:=List.drop_of_length_le (by omega)
      rw [this]
      simp [hi,firstF]
theorem lps67 (F:Nat) (hF:F = FU) (B kk:Nat):LpsOk (ctx F [(23,.pure S22),(67,.pure (S67 B kk))]) (L67 B kk) (loopsOf (body Tryz.f67)):=by
  subst hF
  refine lps_one (c:=lp Tryz.f67 0) rfl (by kernel_rfl) fun R st K r h => ?_
  unfold T67_0 at h
  cases hs:shape 68 [0,3,6] st.slots with
  | false => rw [hs] at h; simp [Tr.run] at h
  | true =>
  rw [hs] at h
  simp only [cond_true] at h
  have he:=shape_eq hs
  obtain ⟨sl0,H⟩:=st
  dsimp only at h he ⊢
  split at h
  · rename_i l i k c vk vn vs L p g0_ g1_ g2_
    simp only [List.map_cons,List.map_nil,g0_,g1_,g2_] at he
    subst he
    simp only [Tr.run] at h
    cases hc:(decide (L.length ≤ big) && decide (l.all (okCn big) = true) && decide (l.length ≤ big) && decide (B ≤ big) && decide (L.all (okC B kk) = true) && decide (0 ≤ i) && decide (i ≤ L.length)) with
    | false => rw [hc] at h; simp at h
    | true =>
    rw [hc] at h
    simp only [Bool.and_eq_true,decide_eq_true_eq] at hc
    obtain ⟨⟨⟨⟨⟨⟨c0,c1⟩,c2⟩,c3⟩,c4⟩,c5⟩,c6⟩:=hc
    refine (loop67_0 FU B kk l k c vk vn vs L p K c0 c1 c2 c3 c4 FU i c5 c6 (by unfold FU; (try unfold big at *); omega)).trans ?_
    rw [← h]
    rfl
  · simp [Tr.run] at h
theorem ok67s (W0:World) (B kk:Nat) (ih:EKOk Tryz.prog W0 67 (.pure (S67 B kk))):EKOk Tryz.prog W0 67 (.pure (S67 B (kk + 1))):=by
  refine pure_of (tyOk FU [(23,.pure S22),(67,.pure (S67 B kk))]) (look_ok (all_cons (ok23 W0) (all_cons ih all_nil))) mixed fn67 (lps67 FU rfl B kk) fun args r h => ?_
  unfold S67 at h
  split at h
  · rename_i l v
    simp only [Tr.val_chk,chk_some,Bool.and_eq_true,decide_eq_true_eq] at h
    obtain ⟨⟨⟨⟨h6,h7⟩,hv⟩,hB⟩,h⟩:=h
    obtain ⟨k,c,vk,vn,vs,L,p,rfl,h1,h2,h3,h4,h5⟩:=okC_inv hv
    refine (run67 FU B kk l k c vk vn vs L p).trans (Eq.trans ?_ h)
    have e0:whereQ l (kk + 1) (.agg [.int .i64 k,.str c,.int .i64 vk,.int .i64 vn,.str vs,.slc 7 L,.int .i64 p]) = if k ≤ 3 then firstF (whereQ l kk) L else
      if findC l c < 0 then (p,13) else if (atI l (findC l c).toNat 1 ≠ 3 ∧ atI l (findC l c).toNat 1 ≠ vk) ∨ (k = 10 ∧ atI l (findC l c).toNat 1 = 1) then (p,12) else (0,0):=rfl
    have hM:l.all (okCn ML) = true:=okCn_le h6 (by unfold big ML; omega)
    have hf:0 ≤ findC l c → (findC l c).toNat < l.length ∧ fits [.str [],.int .i64 0] (gt .nili l (findC l c).toNat).cells = true:=fun q =>
      ⟨(findC_get q).1,okCn_fits (all_gt h6 (i:=findC l c) q (by have:=(findC_get q).1; omega))⟩
    have hb:L.length ≤ big:=by omega
    have hz:=first_zero (f:=whereQ l kk) (l:=L)
    rw [e0]
    simp only [Tr.val_ok,Tr.val_cnd,Tr.val_chk,cnd_i,chk_i,Bool.and_eq_true,decide_eq_true_eq,List.drop_zero,Int.toNat_zero,Nat.zero_add,hM,hb,h5,h6,h7,hB,Int.le_refl,Int.natCast_nonneg,and_self,and_true,if_true]
    clear h ih hv e0 h1 h2 h3 h4 hM h6
    generalize firstF (whereQ l kk) L = q at *
    generalize findC l c = j at *
    generalize fits [.str [],.int .i64 0] (gt .nili l j.toNat).cells = z at *
    generalize atI l j.toNat 1 = y at *
    grind
  · simp [Tr.val_no] at h
theorem ok67 (W0:World) (B:Nat):∀ kk,EKOk Tryz.prog W0 67 (.pure (S67 B kk)):=by
  intro kk
  induction kk with
  | zero => exact ek_void W0 fn67 (S67_zero B)
  | succ kk ih => exact ok67s W0 B kk ih
theorem loop68_0 (F:Nat) {R:Type} (B:Nat) (l:List DV) (cols:List DV) (once:Bool) (K:Ex → St → Option R) (g0:cols.length ≤ B) (g1:cols.all (okCol B) = true) (g2:l.all (okCn big) = true) (g3:l.length ≤ big) (g4:B ≤ big) :
    ∀ (m:Nat) (out:List DV) (i:Int),out.all (okCn big) = true → (out.length:Int) = i → 0 ≤ i → i ≤ cols.length → (cols.length - i).toNat < m →
      loopK (pcodeK (ctxL F [(23,.pure S22)]) noL (lp Tryz.f68 0)) 0 (allBut 56 [0,1,2,9,10] ++ temps (lp Tryz.f68 0)) (allBut 56 [6,7,8,9]) m
        ⟨slots 56 [(0,.d (.slc 2 l)),(1,.d (.slc 3 cols)),(2,.d (.bool once)),(9,.own 2 out),(10,.d (.int .i64 i))],[]⟩ K =
      Tr.run (.cnd (decide ((namedP l once (cols.drop i.toNat) out).2.2 = 0)) (.ok (.exit 0,⟨slots 56 [(9,.own 2 (namedP l once (cols.drop i.toNat) out).1)],[]⟩)) (.ok (.ret,⟨slots 56 [(6,.own 2 []),(7,.d (.int .i64 (namedP l once (cols.drop i.toNat) out).2.1)),(8,.d (.int .i64 (namedP l once (cols.drop i.toNat) out).2.2)),(9,.own 2 (namedP l once (cols.drop i.toNat) out).1)],[]⟩))) (fun p => K p.1 p.2):=by
  intro m
  induction m with
  | zero => intro out i; intros; omega
  | succ m ih =>
    intro out i h0 h1 h2 h3 hm
    rw [loopK_succ,round68_0]
    simp only [Tr.run,rnd,cnd_i,chk_i,Bool.and_eq_true,decide_eq_true_eq]
    by_cases hi:i < cols.length
    · have w:IntKind.i64.wrap (i + 1) = i + 1:=wrap64 (by omega) (by unfold big at g4; omega)
      have hx:=all_gt g1 (i:=i) (by omega) (by omega)
      have ht:=okCol_fits hx
      have hM:l.all (okCn ML) = true:=okCn_le g2 (by unfold big ML; omega)
      have hO:out.all (okCn ML) = true:=okCn_le h0 (by unfold big ML; omega)
      have hl:∀ x:DV,limit 24 (out.length + ([x]).length) = true:=fun x => by
        unfold limit; unfold big at g4; simp only [List.length_singleton,decide_eq_true_eq]; omega
      have hf:0 ≤ findC l (atS cols i.toNat 0) → (findC l (atS cols i.toNat 0)).toNat < l.length ∧ fits [.str [],.int .i64 0] (gt .nili l (findC l (atS cols i.toNat 0)).toNat).cells = true ∧
          DV.agg [DV.str (atS l (findC l (atS cols i.toNat 0)).toNat 0),DV.int IntKind.i64 (atI l (findC l (atS cols i.toNat 0)).toNat (0 + 1))] = gt .nili l (findC l (atS cols i.toNat 0)).toNat ∧
          (out ++ [gt .nili l (findC l (atS cols i.toNat 0)).toNat]).all (okCn big) = true:=fun q => by
        have a:=(findC_get q).1
        have b:=all_gt g2 (i:=findC l (atS cols i.toNat 0)) q (by omega)
        exact ⟨a,okCn_fits b,okCn_view b,by rw [List.all_append,h0]; simpa using b⟩
      have hob:out.length ≤ big:=by omega
      rw [namedP_drop (by omega) (by omega)]
      have e1:cS (gt .nili cols i.toNat) 0 = atS cols i.toNat 0:=rfl
      have e2:cI (gt .nili cols i.toNat) 2 = atI cols i.toNat (0 + 1 + 1):=rfl
      have e3:i.toNat < cols.length:=by omega
      have e4:findC out (atS cols i.toNat 0) ≥ 0 ↔ 0 ≤ findC out (atS cols i.toNat 0):=Iff.rfl
      rw [e1,e2]
      simp only [hi,h2,e3,ht,hM,hO,g3,hob,and_self,if_true,hl,e4]
      have ih1:=fun q => ih (out ++ [gt .nili l (findC l (atS cols i.toNat 0)).toNat]) (i + 1) (hf q).2.2.2 (by simp; omega) (by omega) (by omega) (by omega)
      simp only [Tr.run,cnd_i,decide_eq_true_eq] at ih1
      clear ih
      by_cases q:findC l (atS cols i.toNat 0) < 0
      · simp only [q,if_true]; simp
      · have q0:0 ≤ findC l (atS cols i.toNat 0):=by omega
        obtain ⟨f1,f2,f3,f4⟩:=hf q0
        have ih2:=ih1 q0
        clear ih1 hf
        simp only [q,if_false,q0,f1,f2,f3,w,if_true]
        cases once
        · simp only [Bool.false_eq_true,false_and,if_false]; exact ih2
        · simp only [true_and,if_true]
          by_cases z:0 ≤ findC out (atS cols i.toNat 0)
          · simp only [z,if_true]; simp
          · simp only [z,if_false]; exact ih2
    · have:cols.drop i.toNat = []:=List.drop_of_length_le (by omega)
      rw [this]
      simp [hi,namedP]
theorem lps68 (F:Nat) (hF:F = FU) (B:Nat):LpsOk (ctxL F [(23,.pure S22)]) (L68 B) (loopsOf (body Tryz.f68)):=by
  subst hF
  refine lps_one (c:=lp Tryz.f68 0) rfl (by kernel_rfl) fun R st K r h => ?_
  unfold T68_0 at h
  cases hs:shape 56 [0,1,2,9,10] st.slots with
  | false => rw [hs] at h; simp [Tr.run] at h
  | true =>
  rw [hs] at h
  simp only [cond_true] at h
  have he:=shape_eq hs
  obtain ⟨sl0,H⟩:=st
  dsimp only at h he ⊢
  split at h
  · rename_i l cols once out i g0_ g1_ g2_ g3_ g4_
    simp only [List.map_cons,List.map_nil,g0_,g1_,g2_,g3_,g4_] at he
    subst he
    simp only [Tr.run] at h
    cases hc:(decide (cols.length ≤ B) && decide (cols.all (okCol B) = true) && decide (l.all (okCn big) = true) && decide (l.length ≤ big) && decide (B ≤ big) && decide (out.all (okCn big) = true) && decide ((out.length:Int) = i) && decide (0 ≤ i) && decide (i ≤ cols.length)) with
    | false => rw [hc] at h; simp at h
    | true =>
    rw [hc] at h
    simp only [Bool.and_eq_true,decide_eq_true_eq] at hc
    obtain ⟨⟨⟨⟨⟨⟨⟨⟨c0,c1⟩,c2⟩,c3⟩,c4⟩,c5⟩,c6⟩,c7⟩,c8⟩:=hc
    refine (loop68_0 FU B l cols once K c0 c1 c2 c3 c4 FU out i c5 c6 c7 c8 (by unfold FU; (try unfold big at *); omega)).trans ?_
    rw [← h]
    rfl
  · simp [Tr.run] at h
theorem ok68 (W0:World) (B:Nat):EKOk Tryz.prog W0 68 (.pure (S68 B)):=by
  refine pure_of (tyOkL FU [(23,.pure S22)]) (look_ok (all_cons (ok23 W0) all_nil)) mixed fn68 (lps68 FU rfl B) fun args r h => ?_
  unfold S68 at h
  split at h
  · rename_i l cols once
    refine (run68 FU B l cols once).trans (Eq.trans ?_ h)
    simp only [Tr.val_chk,chk_some,Bool.and_eq_true,decide_eq_true_eq] at h
    obtain ⟨⟨⟨⟨c0,c1⟩,c2⟩,c3⟩,c4⟩:=h.1
    clear h
    have e0:([]:List DV).all (okCn big) = true:=rfl
    rw [named_P l once cols []]
    have e1:((if (namedP l once cols []).2.2 ≠ 0 then ([],(namedP l once cols []).2) else namedP l once cols []):List DV × Int × Int).2.2 = (namedP l once cols []).2.2:=by split <;> rfl
    simp only [Tr.val_ok,Tr.val_cnd,Tr.val_chk,cnd_i,chk_i,Bool.and_eq_true,decide_eq_true_eq,List.drop_zero,Int.toNat_zero,e0,e1,c0,c1,c2,c3,c4,and_self,if_true]
    by_cases q:(namedP l once cols []).2.2 = 0
    · simp [q]
    · simp [q]
  · simp [Tr.val_no] at h
end Go.PS
end

section
namespace Go.PS
open Go.Proofs
set_option linter.all false
theorem ok19 (W0:World):EKOk Tryz.prog W0 19 (.pure S18):=by
  refine pure_low (ok19x W0) fun args v' h => ?_
  unfold S18 at h
  split at h
  · simp only [Tr.val_ok,Option.some.injEq] at h
    subst h
    exact ⟨_,rfl,rfl⟩
  · simp [Tr.val_no] at h
theorem named_full {l:List DV} {once:Bool}:∀ (cols out:List DV),(namedG l once cols out).2.2 = 0 → (namedG l once cols out).1.length = out.length + cols.length:=by
  intro cols
  induction cols with
  | nil => intro out _; rfl
  | cons c r ih =>
    intro out h
    unfold namedG at h ⊢
    split at h
    · exact absurd h (show ¬ ((13:Int) = 0) by decide)
    · rename_i q
      rw [if_neg q]
      split at h
      · exact absurd h (show ¬ ((7:Int) = 0) by decide)
      · rename_i q2; rw [if_neg q2,ih _ h]; simp; omega
def S69 (B:Nat):List PV → Tr PV
  | [.d (.slc 2 l),.d (.agg [.int .i64 sk,.int .i64 k,.str c,.int .i64 vk,.int .i64 vn,.str vs,.slc 7 L,.int .i64 p,.slc 3 cols,.slc 3 bys,.int .i64 m,.int .i64 sp])] => .chk (l.all (okCn big) && decide (l.length ≤ big) && cols.all (okCol B) && bys.all (okCol B) && decide (cols.length ≤ B) && decide (bys.length ≤ B) && decide (B ≤ 999999) && decide (5 ≤ sk) && decide (sk ≤ 8) && (decide (sk = 5) || decide (1 ≤ cols.length)))
      (.ok (.tup [.own 2 (gatherG l cols bys sk).1,.d (.int .i64 (gatherG l cols bys sk).2.1),.d (.int .i64 (gatherG l cols bys sk).2.2)]))
  | _ => .no
def lentR (n:Nat) (l:List DV) (s:DV):Bool:=decide ((stepR n l s).2.2 = 0) && (decide (cI s 0 = 1) || decide (cI s 0 = 3) || decide (cI s 0 = 4))
def S25x (B n:Nat):List PV → Tr PV
  | [.d (.slc 2 l),.d v] => .chk (l.all (okCn big) && decide (l.length ≤ big) && okStep B n v && decide (B ≤ 999999))
      (.cnd (lentR n l v) (.ok (.tup [.d (.slc 2 (stepR n l v).1),.d (.int .i64 (stepR n l v).2.1),.d (.int .i64 (stepR n l v).2.2)])) (.ok (.tup [.own 2 (stepR n l v).1,.d (.int .i64 (stepR n l v).2.1),.d (.int .i64 (stepR n l v).2.2)])))
  | _ => .no
def S25 (B n:Nat):List PV → Tr PV
  | [.d (.slc 2 l),.d v] => .chk (l.all (okCn big) && decide (l.length ≤ big) && okStep B n v && decide (B ≤ 999999))
      (.ok (.tup [.d (.slc 2 (stepR n l v).1),.d (.int .i64 (stepR n l v).2.1),.d (.int .i64 (stepR n l v).2.2)]))
  | _ => .no
def foldQP (n:Nat):List DV → List DV → List DV × Int × Int
  | [],l => (l,0,0)
  | s :: r,l => if (stepR n l s).2.2 ≠ 0 then (l,(stepR n l s).2) else foldQP n r (stepR n l s).1
theorem foldQ_P (n:Nat):∀ (steps l:List DV),foldQ n steps l = if (foldQP n steps l).2.2 ≠ 0 then ([],(foldQP n steps l).2) else foldQP n steps l:=by
  intro steps
  induction steps with
  | nil => intro l; rfl
  | cons s r ih =>
    intro l
    unfold foldQ foldQP
    split
    · rfl
    · exact ih _
theorem foldQP_zero (n:Nat):∀ (steps l:List DV),(foldQP n steps l).2.2 = 0 → foldQP n steps l = ((foldQP n steps l).1,0,0):=by
  intro steps
  induction steps with
  | nil => intro l _; rfl
  | cons s r ih =>
    intro l h
    unfold foldQP at h ⊢
    split at h
    · rename_i q; exact absurd h q
    · rename_i q; rw [if_neg q]; exact ih _ h
theorem foldQP_drop {n:Nat} {xs l:List DV} {i:Int} (h0:0 ≤ i) (h:i < xs.length):foldQP n (xs.drop i.toNat) l = if (stepR n l (gt .nili xs i.toNat)).2.2 ≠ 0 then (l,(stepR n l (gt .nili xs i.toNat)).2) else foldQP n (xs.drop (i + 1).toNat) (stepR n l (gt .nili xs i.toNat)).1:=by
  rw [drop_gt h0 h]; rfl
theorem stepR_cn {B n:Nat} {l:List DV} {s:DV} (hl:l.all (okCn big) = true) (hb:l.length ≤ big) (hs:okStep B n s = true) (hB:B ≤ 999999):(stepR n l s).1.all (okCn big) = true ∧ (stepR n l s).1.length ≤ big:=by
  rw [stepR_eq hs]
  unfold stepTy stepCc
  split
  · exact ⟨rfl,by simp⟩
  · split
    · exact ⟨rfl,by simp⟩
    · exact step_cn hl hb hs hB
def S16x (B n:Nat):List PV → Tr PV
  | [.d (.slc 2 l),.d (.agg [.int .i64 k,.int .i64 f,.int .i64 t,.str path,.str name,.str b,.int .i64 c,.bool a,.int .i64 ti,.int .i64 p1,.str b2,.int .i64 cm2,.bool a2,.int .i64 ti2,.int .i64 p2,.int .i64 p3,.slc 12 steps])] => .chk (l.all (okCn big) && decide (l.length ≤ big) && steps.all (okStep B n) && decide (steps.length ≤ big) && decide (B ≤ 999999) && lensQ big path name b b2)
      (.cnd (decide ((queryR n (rightQ n k f t path name b c a ti b2 cm2 a2 ti2 steps) steps (colsOf k l)).2.2 = 0)) (.ok (.tup [.d (.slc 2 (queryR n (rightQ n k f t path name b c a ti b2 cm2 a2 ti2 steps) steps (colsOf k l)).1),.d (.int .i64 0),.d (.int .i64 0)]))
        (.ok (.tup [.own 2 [],.d (.int .i64 (queryR n (rightQ n k f t path name b c a ti b2 cm2 a2 ti2 steps) steps (colsOf k l)).2.1),.d (.int .i64 (queryR n (rightQ n k f t path name b c a ti b2 cm2 a2 ti2 steps) steps (colsOf k l)).2.2)])))
  | _ => .no
def sameL:List DV → List DV → Bool
  | x :: a,y :: b => (decide (cS x 0 = cS y 0) && decide (cI x 1 = cI y 1)) && sameL a b
  | _,_ => true
def sameC (a b:List DV):Bool:=decide (a.length = b.length) && sameL a b
theorem sameL_refl:∀ a:List DV,sameL a a = true:=by
  intro a
  induction a with
  | nil => rfl
  | cons x a ih => simp [sameL,ih]
theorem sameC_refl (a:List DV):sameC a a = true:=by simp [sameC,sameL_refl]
theorem sameL_drop {a b:List DV} {i:Int} (h0:0 ≤ i) (h:i < a.length) (hb:i < b.length):sameL (a.drop i.toNat) (b.drop i.toNat) = ((decide (atS a i.toNat 0 = atS b i.toNat 0) && decide (atI a i.toNat 1 = atI b i.toNat 1)) && sameL (a.drop (i + 1).toNat) (b.drop (i + 1).toNat)):=by
  rw [drop_gt h0 h,drop_gt h0 hb]; rfl
def S17:List PV → Tr PV
  | [.d (.slc 2 l),.d (.slc 2 r)] => .chk (l.all (okCn ML) && r.all (okCn ML) && decide (l.length ≤ big)) (.ok (.d (.bool (sameC l r))))
  | _ => .no
def T16_0 (B n:Nat) (st:St):Tr (Ex × St) :=
  bif shape 50 [3,7,8] st.slots then
    match gt .undef st.slots 3,gt .undef st.slots 7,gt .undef st.slots 8,st.heap with
    | .ptr 0 0,.d (.slc 2 l),.d (.int .i64 i),[.cells [.d (.int .i64 k),.d (.int .i64 f),.d (.int .i64 t),.d (.str path),.d (.str name),.d (.str b),.d (.int .i64 c),.d (.bool a),.d (.int .i64 ti),.d (.int .i64 p1),.d (.str b2),.d (.int .i64 cm2),.d (.bool a2),.d (.int .i64 ti2),.d (.int .i64 p2),.d (.int .i64 p3),.d (.slc 12 steps)]] =>
      .chk (decide (steps.length ≤ big) && decide (steps.all (okStep B n) = true) && decide (B ≤ 999999) && decide (l.all (okCn big) = true) && decide (l.length ≤ big) && decide (0 ≤ i) && decide (i ≤ steps.length)) (.cnd (decide ((foldQP n (steps.drop i.toNat) l).2.2 = 0)) (.ok (.exit 0,⟨slots 50 [(7,.d (.slc 2 (foldQP n (steps.drop i.toNat) l).1))],[.cells [.d (.int .i64 k),.d (.int .i64 f),.d (.int .i64 t),.d (.str path),.d (.str name),.d (.str b),.d (.int .i64 c),.d (.bool a),.d (.int .i64 ti),.d (.int .i64 p1),.d (.str b2),.d (.int .i64 cm2),.d (.bool a2),.d (.int .i64 ti2),.d (.int .i64 p2),.d (.int .i64 p3),.d (.slc 12 steps)]]⟩)) (.ok (.ret,⟨slots 50 [(4,.own 2 []),(5,.d (.int .i64 (foldQP n (steps.drop i.toNat) l).2.1)),(6,.d (.int .i64 (foldQP n (steps.drop i.toNat) l).2.2)),(7,.d (.slc 2 (foldQP n (steps.drop i.toNat) l).1))],[.cells [.d (.int .i64 k),.d (.int .i64 f),.d (.int .i64 t),.d (.str path),.d (.str name),.d (.str b),.d (.int .i64 c),.d (.bool a),.d (.int .i64 ti),.d (.int .i64 p1),.d (.str b2),.d (.int .i64 cm2),.d (.bool a2),.d (.int .i64 ti2),.d (.int .i64 p2),.d (.int .i64 p3),.d (.slc 12 steps)]]⟩)))
    | _,_,_,_ => .no
  else .no
def L16 (B n:Nat):Lps:=fun i => bif Nat.beq i 9 then some (allBut 50 [3,7,8],allBut 50 [4,5,6,7],T16_0 B n) else none
def T17_0 (st:St):Tr (Ex × St) :=
  bif shape 26 [0,1,5] st.slots then
    match gt .undef st.slots 0,gt .undef st.slots 1,gt .undef st.slots 5,st.heap with
    | .d (.slc 2 l),.d (.slc 2 r),.d (.int .i64 i),[] =>
      .chk (decide (l.length ≤ big) && decide (l.all (okCn ML) = true) && decide (r.all (okCn ML) = true) && decide (l.length = r.length) && decide (0 ≤ i) && decide (i ≤ l.length)) (.cnd (sameL (l.drop i.toNat) (r.drop i.toNat)) (.ok (.exit 0,⟨slots 26 [],[]⟩)) (.ok (.ret,⟨slots 26 [(4,.d (.bool false))],[]⟩)))
    | _,_,_,_ => .no
  else .no
def L17:Lps:=fun i => bif Nat.beq i 4 then some (allBut 26 [0,1,5],allBut 26 [4],T17_0) else none
end Go.PS
end

section
namespace Go.PS
open Go.Proofs
set_option maxRecDepth 100000
theorem fn69:FnOk Tryz.prog 69 80 [.tmp 4,.tmp 5,.tmp 6] (body Tryz.f69):=⟨Tryz.f69,Tryz.func69,bodySome _ (by kernel_rfl),by kernel_rfl,by kernel_rfl,by kernel_rfl,by kernel_rfl⟩
theorem run69 (F:Nat) (B:Nat) (l:List DV) (sk k:Int) (c:Str) (vk vn:Int) (vs:Str) (L:List DV) (p:Int) (cols bys:List DV) (m sp:Int):runP
 (ctx F [(68,.pure (S68 B)),(64,.pure S64),(23,.pure S22)]) noL 80 [.tmp 4,.tmp 5,.tmp 6] (body Tryz.f69) [.d (.slc 2 l),.d (.agg [.int .i64 sk,.int .i64
 k,.str c,.int .i64 vk,.int .i64 vn,.str vs,.slc 7 L,.int .i64 p,.slc 3 cols,.slc 3 bys,.int .i64 m,.int .i64 sp])] = Tr.val (.chk (l.all (okCn big) &&
 decide (l.length ≤ big) && cols.all (okCol B) && decide (cols.length ≤ B) && decide (B ≤ big)) (.cnd (decide ((namedG l false cols []).snd.snd = 0)) (.chk (l.all
 (okCn big) && decide (l.length ≤ big) && bys.all (okCol B) && decide (bys.length ≤ B) && decide (B ≤ big)) (.cnd (decide ((namedG l false bys []).snd.snd = 0))
 (.cnd (decide (sk = 6)) (.chk (decide (Int.toNat 0 < (namedG l false cols []).fst.length)) (.chk (fits [.str [],.int .i64 0] (gt DV.nili (namedG l false cols
 []).fst (Int.toNat 0)).cells) (.cnd (decide (atI (namedG l false cols []).fst (Int.toNat 0) (0 + 1) = 2)) (.chk (decide (Int.toNat 0 < cols.length)) (.chk (fits
 [.str [],.bool false,.int .i64 0] (gt DV.nili cols (Int.toNat 0)).cells) (.ok (PV.tup [PV.own 2 [],.d (.int .i64 (atI cols (Int.toNat 0) (0 + 1 + 1))),.d
 (.int .i64 (12))])))) (.chk ((namedG l false bys []).fst.all (okCn ML) && decide ((namedG l false bys []).fst.length ≤ big)) (.cnd (decide (findC (namedG l false
 bys []).fst ([116,111,116,97,108]:List UInt8) ≥ 0)) (.chk (decide (Int.toNat 0 < bys.length)) (.chk (fits [.str [],.bool false,.int .i64 0] (gt DV.nili
 bys (Int.toNat 0)).cells) (.ok (PV.tup [PV.own 2 [],.d (.int .i64 (atI bys (Int.toNat 0) (0 + 1 + 1))),.d (.int .i64 (7))])))) (.chk (limit 24 ((namedG l false
 bys []).fst.length + ([DV.agg [.str ([116,111,116,97,108]:List UInt8),.int .i64 1]]).length)) (.ok (PV.tup [PV.own 2 ((namedG l false bys []).fst ++
 [DV.agg [.str ([116,111,116,97,108]:List UInt8),.int .i64 (1)]]),.d (.int .i64 (0)),.d (.int .i64 (0))])))))))) (.cnd (decide (sk = 7)) (.chk (decide
 (Int.toNat 0 < (namedG l false cols []).fst.length)) (.chk (fits [.str [],.int .i64 0] (gt DV.nili (namedG l false cols []).fst (Int.toNat 0)).cells) (.chk
 ((namedG l false bys []).fst.all (okCn ML) && decide ((namedG l false bys []).fst.length ≤ big)) (.cnd (decide (findC (namedG l false bys []).fst ([108,101,97,
 115,116]:List UInt8) ≥ 0)) (.chk (decide (Int.toNat 0 < bys.length)) (.chk (fits [.str [],.bool false,.int .i64 0] (gt DV.nili bys (Int.toNat 0)).cells)
 (.ok (PV.tup [PV.own 2 [],.d (.int .i64 (atI bys (Int.toNat 0) (0 + 1 + 1))),.d (.int .i64 (7))])))) (.chk (limit 24 ((namedG l false bys []).fst.length +
 ([DV.agg [.str ([108,101,97,115,116]:List UInt8),.int .i64 (atI (namedG l false cols []).fst (Int.toNat 0) (0 + 1))]]).length)) (.ok (PV.tup [PV.own 2
 ((namedG l false bys []).fst ++ [DV.agg [.str ([108,101,97,115,116]:List UInt8),.int .i64 (atI (namedG l false cols []).fst (Int.toNat 0) (0 + 1))]]),.d
 (.int .i64 (0)),.d (.int .i64 (0))]))))))) (.cnd (decide (sk = 8)) (.chk (decide (Int.toNat 0 < (namedG l false cols []).fst.length)) (.chk (fits [.str [],.int
 .i64 0] (gt DV.nili (namedG l false cols []).fst (Int.toNat 0)).cells) (.chk ((namedG l false bys []).fst.all (okCn ML) && decide ((namedG l false bys
 []).fst.length ≤ big)) (.cnd (decide (findC (namedG l false bys []).fst ([109,111,115,116]:List UInt8) ≥ 0)) (.chk (decide (Int.toNat 0 < bys.length)) (.chk
 (fits [.str [],.bool false,.int .i64 0] (gt DV.nili bys (Int.toNat 0)).cells) (.ok (PV.tup [PV.own 2 [],.d (.int .i64 (atI bys (Int.toNat 0) (0 + 1 + 1))),.d
 (.int .i64 (7))])))) (.chk (limit 24 ((namedG l false bys []).fst.length + ([DV.agg [.str ([109,111,115,116]:List UInt8),.int .i64 (atI (namedG l false
 cols []).fst (Int.toNat 0) (0 + 1))]]).length)) (.ok (PV.tup [PV.own 2 ((namedG l false bys []).fst ++ [DV.agg [.str ([109,111,115,116]:List UInt8),.int
 .i64 (atI (namedG l false cols []).fst (Int.toNat 0) (0 + 1))]]),.d (.int .i64 (0)),.d (.int .i64 (0))]))))))) (.chk ((namedG l false bys []).fst.all (okCn ML)
 && decide ((namedG l false bys []).fst.length ≤ big)) (.cnd (decide (findC (namedG l false bys []).fst ([110]:List UInt8) ≥ 0)) (.chk (decide (Int.toNat 0 <
 bys.length)) (.chk (fits [.str [],.bool false,.int .i64 0] (gt DV.nili bys (Int.toNat 0)).cells) (.ok (PV.tup [PV.own 2 [],.d (.int .i64 (atI bys (Int.toNat
 0) (0 + 1 + 1))),.d (.int .i64 (7))])))) (.chk (limit 24 ((namedG l false bys []).fst.length + ([DV.agg [.str ([110]:List UInt8),.int .i64 1]]).length)) (.ok
 (PV.tup [PV.own 2 ((namedG l false bys []).fst ++ [DV.agg [.str ([110]:List UInt8),.int .i64 (1)]]),.d (.int .i64 (0)),.d (.int .i64 (0))])))))))) (.cnd
 (!decide ((namedG l false bys []).snd.snd = 0)) (.ok (PV.tup [PV.own 2 [],.d (.int .i64 (namedG l false bys []).snd.fst),.d (.int .i64 (namedG l false bys
 []).snd.snd)])) (.cnd (decide (sk = 6)) (.chk (decide (Int.toNat 0 < (namedG l false cols []).fst.length)) (.chk (fits [.str [],.int .i64 0] (gt DV.nili (namedG
 l false cols []).fst (Int.toNat 0)).cells) (.cnd (decide (atI (namedG l false cols []).fst (Int.toNat 0) (0 + 1) = 2)) (.chk (decide (Int.toNat 0 < cols.length))
 (.chk (fits [.str [],.bool false,.int .i64 0] (gt DV.nili cols (Int.toNat 0)).cells) (.ok (PV.tup [PV.own 2 [],.d (.int .i64 (atI cols (Int.toNat 0) (0 + 1 +
 1))),.d (.int .i64 (12))])))) (.ok (PV.tup [PV.own 2 [DV.agg [.str ([116,111,116,97,108]:List UInt8),.int .i64 (1)]],.d (.int .i64 (0)),.d (.int .i64
 (0))]))))) (.cnd (decide (sk = 7)) (.chk (decide (Int.toNat 0 < (namedG l false cols []).fst.length)) (.chk (fits [.str [],.int .i64 0] (gt DV.nili (namedG l
 false cols []).fst (Int.toNat 0)).cells) (.ok (PV.tup [PV.own 2 [DV.agg [.str ([108,101,97,115,116]:List UInt8),.int .i64 (atI (namedG l false cols
 []).fst (Int.toNat 0) (0 + 1))]],.d (.int .i64 (0)),.d (.int .i64 (0))])))) (.cnd (decide (sk = 8)) (.chk (decide (Int.toNat 0 < (namedG l false cols
 []).fst.length)) (.chk (fits [.str [],.int .i64 0] (gt DV.nili (namedG l false cols []).fst (Int.toNat 0)).cells) (.ok (PV.tup [PV.own 2 [DV.agg [.str ([109,
 111,115,116]:List UInt8),.int .i64 (atI (namedG l false cols []).fst (Int.toNat 0) (0 + 1))]],.d (.int .i64 (0)),.d (.int .i64 (0))])))) (.ok (PV.tup
 [PV.own 2 [DV.agg [.str ([110]:List UInt8),.int .i64 (1)]],.d (.int .i64 (0)),.d (.int .i64 (0))])))))))) (.cnd (!decide ((namedG l false cols []).snd.snd =
 0)) (.ok (PV.tup [PV.own 2 [],.d (.int .i64 (namedG l false cols []).snd.fst),.d (.int .i64 (namedG l false cols []).snd.snd)])) (.chk (l.all (okCn big) &&
 decide (l.length ≤ big) && bys.all (okCol B) && decide (bys.length ≤ B) && decide (B ≤ big)) (.cnd (decide ((namedG l false bys []).snd.snd = 0)) (.cnd (decide
 (sk = 6)) .no (.cnd (decide (sk = 7)) .no (.cnd (decide (sk = 8)) .no (.chk ((namedG l false bys []).fst.all (okCn ML) && decide ((namedG l false bys
 []).fst.length ≤ big)) (.cnd (decide (findC (namedG l false bys []).fst ([110]:List UInt8) ≥ 0)) (.chk (decide (Int.toNat 0 < bys.length)) (.chk (fits [.str
 [],.bool false,.int .i64 0] (gt DV.nili bys (Int.toNat 0)).cells) (.ok (PV.tup [PV.own 2 [],.d (.int .i64 (atI bys (Int.toNat 0) (0 + 1 + 1))),.d (.int .i64
 (7))])))) (.chk (limit 24 ((namedG l false bys []).fst.length + ([DV.agg [.str ([110]:List UInt8),.int .i64 1]]).length)) (.ok (PV.tup [PV.own 2 ((namedG l
 false bys []).fst ++ [DV.agg [.str ([110]:List UInt8),.int .i64 (1)]]),.d (.int .i64 (0)),.d (.int .i64 (0))])))))))) (.cnd (!decide ((namedG l false bys
 []).snd.snd = 0)) (.ok (PV.tup [PV.own 2 [],.d (.int .i64 (namedG l false bys []).snd.fst),.d (.int .i64 (namedG l false bys []).snd.snd)])) (.cnd (decide (sk
 = 6)) .no (.cnd (decide (sk = 7)) .no (.cnd (decide (sk = 8)) .no (.ok (PV.tup [PV.own 2 [DV.agg [.str ([110]:List UInt8),.int .i64 (1)]],.d (.int .i64 (0)),
 .d (.int .i64 (0))]))))))))))):=by kernel_rfl
theorem fn25:FnOk Tryz.prog 25 72 [.tmp 4,.tmp 5,.tmp 6] (body Tryz.f25):=⟨Tryz.f25,Tryz.func25,bodySome _ (by kernel_rfl),by kernel_rfl,by kernel_rfl,by kernel_rfl,by kernel_rfl⟩
theorem run25 (F:Nat) (B n:Nat) (l:List DV) (sk k:Int) (c:Str) (vk vn:Int) (vs:Str) (L:List DV) (p:Int) (cols bys:List DV) (m sp:Int) :
 runP (ctx F [(61,.pure S61),(60,.pure (S60 B n)),(67,.pure (S67 B n)),(68,.pure (S68 B)),(69,.pure (S69 B))]) noL 72 [.tmp 4,.tmp 5,.tmp 6] (body
 Tryz.f25) [.d (.slc 2 l),.d (.agg [.int .i64 sk,.int .i64 k,.str c,.int .i64 vk,.int .i64 vn,.str vs,.slc 7 L,.int .i64 p,.slc 3 cols,.slc 3 bys,.int
 .i64 m,.int .i64 sp])] = Tr.val (.chk (l.all (okCn big) && decide (l.length ≤ big)) (.cnd (!rightC l) (.ok (PV.tup [PV.own 2 [],.d (.int .i64 (0)),.d (.int
 .i64 (2))])) (.chk (([DV.agg [.int .i64 sk,.int .i64 k,.str c,.int .i64 vk,.int .i64 vn,.str vs,.slc 7 L,.int .i64 p,.slc 3 cols,.slc 3 bys,.int .i64
 m,.int .i64 sp]]).all (okStep B n) && decide (([DV.agg [.int .i64 sk,.int .i64 k,.str c,.int .i64 vk,.int .i64 vn,.str vs,.slc 7 L,.int .i64 p,.slc 3
 cols,.slc 3 bys,.int .i64 m,.int .i64 sp]]).length ≤ big) && decide (B ≤ big) && lensQ big [] ([118]:List UInt8) [] []) (.cnd (!rightQ n 9 0 0 [] ([118] :
 List UInt8) [] 0 false 0 [] 0 false 0 ([DV.agg [.int .i64 sk,.int .i64 k,.str c,.int .i64 vk,.int .i64 vn,.str vs,.slc 7 L,.int .i64 p,.slc 3 cols,.slc
 3 bys,.int .i64 m,.int .i64 sp]])) (.ok (PV.tup [PV.own 2 [],.d (.int .i64 (0)),.d (.int .i64 (2))])) (.cnd (decide (sk = 1)) (.chk (l.all (okCn big) &&
 decide (l.length ≤ big) && okC B n (DV.agg [.int .i64 k,.str c,.int .i64 vk,.int .i64 vn,.str vs,.slc 7 L,.int .i64 p]) && decide (B ≤ big)) (.cnd (!decide
 ((whereQ l n (DV.agg [.int .i64 k,.str c,.int .i64 vk,.int .i64 vn,.str vs,.slc 7 L,.int .i64 p])).snd = 0)) (.ok (PV.tup [PV.own 2 [],.d (.int .i64
 (whereQ l n (DV.agg [.int .i64 k,.str c,.int .i64 vk,.int .i64 vn,.str vs,.slc 7 L,.int .i64 p])).fst),.d (.int .i64 (whereQ l n (DV.agg [.int .i64 k,
 .str c,.int .i64 vk,.int .i64 vn,.str vs,.slc 7 L,.int .i64 p])).snd)])) (.ok (PV.tup [.d (.slc 2 l),.d (.int .i64 (0)),.d (.int .i64 (0))])))) (.cnd
 (decide (sk = 2)) (.chk (l.all (okCn big) && decide (l.length ≤ big) && cols.all (okCol B) && decide (cols.length ≤ B) && decide (B ≤ big)) (.cnd (decide
 ((namedG l true cols []).snd.snd = 0)) (.ok (PV.tup [PV.own 2 (namedG l true cols []).fst,.d (.int .i64 (0)),.d (.int .i64 (0))])) (.ok (PV.tup [PV.own 2 [],
 .d (.int .i64 (namedG l true cols []).snd.fst),.d (.int .i64 (namedG l true cols []).snd.snd)])))) (.cnd (decide (sk = 3)) (.chk (l.all (okCn big) && decide
 (l.length ≤ big) && cols.all (okCol B) && decide (cols.length ≤ B) && decide (B ≤ big)) (.cnd (decide ((namedG l false cols []).snd.snd = 0)) (.ok (PV.tup [.d
 (.slc 2 l),.d (.int .i64 (0)),.d (.int .i64 (0))])) (.cnd (!decide ((namedG l false cols []).snd.snd = 0)) (.ok (PV.tup [PV.own 2 [],.d (.int .i64 (namedG l
 false cols []).snd.fst),.d (.int .i64 (namedG l false cols []).snd.snd)])) (.ok (PV.tup [.d (.slc 2 l),.d (.int .i64 (0)),.d (.int .i64 (0))]))))) (.cnd
 (decide (sk = 4)) (.ok (PV.tup [.d (.slc 2 l),.d (.int .i64 (0)),.d (.int .i64 (0))])) (.chk (l.all (okCn big) && decide (l.length ≤ big) && cols.all (okCol B)
 && bys.all (okCol B) && decide (cols.length ≤ B) && decide (bys.length ≤ B) && decide (B ≤ 999999) && decide (5 ≤ sk) && decide (sk ≤ 8) && (decide (sk = 5) ||
 decide (1 ≤ cols.length))) (.ok (PV.tup [PV.own 2 (gatherG l cols bys sk).fst,.d (.int .i64 (gatherG l cols bys sk).snd.fst),.d (.int .i64 (gatherG l cols bys
 sk).snd.snd)]))))))))))):=by kernel_rfl
theorem round16_0 (F:Nat) {R:Type} (B n:Nat) (l:List DV) (i:Int) (k f t:Int) (path name b:Str) (c:Int) (a:Bool) (ti p1:Int) (b2:Str) (cm2 :
 Int) (a2:Bool) (ti2 p2 p3:Int) (steps:List DV) (K:Ex → St → Option R) (G:St → Option R):roundK (pcodeK (ctx F [(60,.pure (S60 B n)),(19,.pure
 S18),(61,.pure S61),(25,.pure (S25 B n))]) noL (lp Tryz.f16 0)) 1 (allBut 50 [3,7,8] ++ temps (lp Tryz.f16 0)) (allBut 50 [4,5,6,7]) ⟨slots 50 [(3,.ptr
 0 0),(7,.d (.slc 2 l)),(8,.d (.int .i64 i))],[.cells [.d (.int .i64 k),.d (.int .i64 f),.d (.int .i64 t),.d (.str path),.d (.str name),.d (.str b),.d
 (.int .i64 c),.d (.bool a),.d (.int .i64 ti),.d (.int .i64 p1),.d (.str b2),.d (.int .i64 cm2),.d (.bool a2),.d (.int .i64 ti2),.d (.int .i64 p2),.d
 (.int .i64 p3),.d (.slc 12 steps)]]⟩ K G = Tr.run (.cnd (decide (i < (↑steps.length:Int))) (.chk (decide (0 ≤ i)) (.chk (decide (i.toNat < steps.length))
 (.chk (fits [.int .i64 0,.int .i64 0,.str [],.int .i64 0,.int .i64 0,.str [],.nils 7,.int .i64 0,.nils 3,.nils 3,.int .i64 0,.int .i64 0] (gt DV.nili
 steps i.toNat).cells) (.chk (l.all (okCn big) && decide (l.length ≤ big) && okStep B n (DV.agg [view steps i.toNat 0 (.int .i64 0),view steps i.toNat (0 + 1)
 (.int .i64 0),view steps i.toNat (0 + 1 + 1) (.str []),view steps i.toNat (0 + 1 + 1 + 1) (.int .i64 0),view steps i.toNat (0 + 1 + 1 + 1 + 1) (.int .i64 0),
 view steps i.toNat (0 + 1 + 1 + 1 + 1 + 1) (.str []),view steps i.toNat (0 + 1 + 1 + 1 + 1 + 1 + 1) (.nils 7),view steps i.toNat (0 + 1 + 1 + 1 + 1 + 1 + 1 +
 1) (.int .i64 0),view steps i.toNat (0 + 1 + 1 + 1 + 1 + 1 + 1 + 1 + 1) (.nils 3),view steps i.toNat (0 + 1 + 1 + 1 + 1 + 1 + 1 + 1 + 1 + 1) (.nils 3),view
 steps i.toNat (0 + 1 + 1 + 1 + 1 + 1 + 1 + 1 + 1 + 1 + 1) (.int .i64 0),view steps i.toNat (0 + 1 + 1 + 1 + 1 + 1 + 1 + 1 + 1 + 1 + 1 + 1) (.int .i64 0)]) &&
 decide (B ≤ 999999)) (.cnd (!decide ((stepR n l (DV.agg [view steps i.toNat 0 (.int .i64 0),view steps i.toNat (0 + 1) (.int .i64 0),view steps i.toNat (0 + 1
 + 1) (.str []),view steps i.toNat (0 + 1 + 1 + 1) (.int .i64 0),view steps i.toNat (0 + 1 + 1 + 1 + 1) (.int .i64 0),view steps i.toNat (0 + 1 + 1 + 1 + 1 +
 1) (.str []),view steps i.toNat (0 + 1 + 1 + 1 + 1 + 1 + 1) (.nils 7),view steps i.toNat (0 + 1 + 1 + 1 + 1 + 1 + 1 + 1) (.int .i64 0),view steps i.toNat (0 +
 1 + 1 + 1 + 1 + 1 + 1 + 1 + 1) (.nils 3),view steps i.toNat (0 + 1 + 1 + 1 + 1 + 1 + 1 + 1 + 1 + 1) (.nils 3),view steps i.toNat (0 + 1 + 1 + 1 + 1 + 1 + 1 + 1
 + 1 + 1 + 1) (.int .i64 0),view steps i.toNat (0 + 1 + 1 + 1 + 1 + 1 + 1 + 1 + 1 + 1 + 1 + 1) (.int .i64 0)])).snd.snd = 0)) (.ok (.inl (Ex.ret,⟨slots 50 [(4,
 PV.own 2 []),(5,.d (.int .i64 (stepR n l (DV.agg [view steps i.toNat 0 (.int .i64 0),view steps i.toNat (0 + 1) (.int .i64 0),view steps i.toNat (0 + 1 + 1)
 (.str []),view steps i.toNat (0 + 1 + 1 + 1) (.int .i64 0),view steps i.toNat (0 + 1 + 1 + 1 + 1) (.int .i64 0),view steps i.toNat (0 + 1 + 1 + 1 + 1 + 1)
 (.str []),view steps i.toNat (0 + 1 + 1 + 1 + 1 + 1 + 1) (.nils 7),view steps i.toNat (0 + 1 + 1 + 1 + 1 + 1 + 1 + 1) (.int .i64 0),view steps i.toNat (0 + 1
 + 1 + 1 + 1 + 1 + 1 + 1 + 1) (.nils 3),view steps i.toNat (0 + 1 + 1 + 1 + 1 + 1 + 1 + 1 + 1 + 1) (.nils 3),view steps i.toNat (0 + 1 + 1 + 1 + 1 + 1 + 1 + 1 +
 1 + 1 + 1) (.int .i64 0),view steps i.toNat (0 + 1 + 1 + 1 + 1 + 1 + 1 + 1 + 1 + 1 + 1 + 1) (.int .i64 0)])).snd.fst)),(6,.d (.int .i64 (stepR n l (DV.agg
 [view steps i.toNat 0 (.int .i64 0),view steps i.toNat (0 + 1) (.int .i64 0),view steps i.toNat (0 + 1 + 1) (.str []),view steps i.toNat (0 + 1 + 1 + 1) (.int
 .i64 0),view steps i.toNat (0 + 1 + 1 + 1 + 1) (.int .i64 0),view steps i.toNat (0 + 1 + 1 + 1 + 1 + 1) (.str []),view steps i.toNat (0 + 1 + 1 + 1 + 1 + 1 +
 1) (.nils 7),view steps i.toNat (0 + 1 + 1 + 1 + 1 + 1 + 1 + 1) (.int .i64 0),view steps i.toNat (0 + 1 + 1 + 1 + 1 + 1 + 1 + 1 + 1) (.nils 3),view steps
 i.toNat (0 + 1 + 1 + 1 + 1 + 1 + 1 + 1 + 1 + 1) (.nils 3),view steps i.toNat (0 + 1 + 1 + 1 + 1 + 1 + 1 + 1 + 1 + 1 + 1) (.int .i64 0),view steps i.toNat (0 +
 1 + 1 + 1 + 1 + 1 + 1 + 1 + 1 + 1 + 1 + 1) (.int .i64 0)])).snd.snd)),(7,.d (.slc 2 l))],[PObj.cells [.d (.int .i64 k),.d (.int .i64 f),.d (.int .i64 t),.d
 (.str path),.d (.str name),.d (.str b),.d (.int .i64 c),.d (.bool a),.d (.int .i64 ti),.d (.int .i64 p1),.d (.str b2),.d (.int .i64 cm2),.d (.bool a2),
 .d (.int .i64 ti2),.d (.int .i64 p2),.d (.int .i64 p3),.d (.slc 12 steps)]]⟩))) (.ok (.inr ⟨slots 50 [(3,PV.ptr 0 0),(7,.d (.slc 2 (stepR n l (DV.agg [view
 steps i.toNat 0 (.int .i64 0),view steps i.toNat (0 + 1) (.int .i64 0),view steps i.toNat (0 + 1 + 1) (.str []),view steps i.toNat (0 + 1 + 1 + 1) (.int .i64
 0),view steps i.toNat (0 + 1 + 1 + 1 + 1) (.int .i64 0),view steps i.toNat (0 + 1 + 1 + 1 + 1 + 1) (.str []),view steps i.toNat (0 + 1 + 1 + 1 + 1 + 1 + 1)
 (.nils 7),view steps i.toNat (0 + 1 + 1 + 1 + 1 + 1 + 1 + 1) (.int .i64 0),view steps i.toNat (0 + 1 + 1 + 1 + 1 + 1 + 1 + 1 + 1) (.nils 3),view steps i.toNat
 (0 + 1 + 1 + 1 + 1 + 1 + 1 + 1 + 1 + 1) (.nils 3),view steps i.toNat (0 + 1 + 1 + 1 + 1 + 1 + 1 + 1 + 1 + 1 + 1) (.int .i64 0),view steps i.toNat (0 + 1 + 1 +
 1 + 1 + 1 + 1 + 1 + 1 + 1 + 1 + 1) (.int .i64 0)])).fst)),(8,.d (.int .i64 (IntKind.i64.wrap (i + 1))))],[PObj.cells [.d (.int .i64 k),.d (.int .i64 f),.d
 (.int .i64 t),.d (.str path),.d (.str name),.d (.str b),.d (.int .i64 c),.d (.bool a),.d (.int .i64 ti),.d (.int .i64 p1),.d (.str b2),.d (.int .i64
 cm2),.d (.bool a2),.d (.int .i64 ti2),.d (.int .i64 p2),.d (.int .i64 p3),.d (.slc 12 steps)]]⟩))))))) (.ok (.inl (Ex.exit 0,⟨slots 50 [(7,.d (.slc 2
 l))],[PObj.cells [.d (.int .i64 k),.d (.int .i64 f),.d (.int .i64 t),.d (.str path),.d (.str name),.d (.str b),.d (.int .i64 c),.d (.bool a),.d (.int
 .i64 ti),.d (.int .i64 p1),.d (.str b2),.d (.int .i64 cm2),.d (.bool a2),.d (.int .i64 ti2),.d (.int .i64 p2),.d (.int .i64 p3),.d (.slc 12 steps)]]⟩))))
 (rnd K G):=by kernel_rfl
theorem fn16:FnOk Tryz.prog 16 50 [.tmp 4,.tmp 5,.tmp 6] (body Tryz.f16):=⟨Tryz.f16,Tryz.func16,bodySome _ (by kernel_rfl),by kernel_rfl,by kernel_rfl,by kernel_rfl,by kernel_rfl⟩
theorem run16 (F:Nat) (B n:Nat) (l:List DV) (k f t:Int) (path name b:Str) (c:Int) (a:Bool) (ti p1:Int) (b2:Str) (cm2:Int) (a2:Bool) (ti2 p2
 p3:Int) (steps:List DV):runP (ctx F [(60,.pure (S60 B n)),(19,.pure S18),(61,.pure S61),(25,.pure (S25 B n))]) (L16 B n) 50 [.tmp 4,.tmp 5,.tmp 6]
 (body Tryz.f16) [.d (.slc 2 l),.d (.agg [.int .i64 k,.int .i64 f,.int .i64 t,.str path,.str name,.str b,.int .i64 c,.bool a,.int .i64 ti,.int .i64 p1,
 .str b2,.int .i64 cm2,.bool a2,.int .i64 ti2,.int .i64 p2,.int .i64 p3,.slc 12 steps])] = Tr.val (.chk (steps.all (okStep B n) && decide (steps.length ≤
 big) && decide (B ≤ big) && lensQ big path name b b2) (.cnd (!rightQ n k f t path name b c a ti b2 cm2 a2 ti2 steps) (.ok (PV.tup [PV.own 2 [],.d (.int .i64
 (0)),.d (.int .i64 (2))])) (.cnd (decide (k = 9)) (.chk (l.all (okCn big) && decide (l.length ≤ big)) (.cnd (!rightC l) (.ok (PV.tup [PV.own 2 [],.d (.int .i64
 (0)),.d (.int .i64 (2))])) (.chk (decide (steps.length ≤ big) && decide (steps.all (okStep B n) = true) && decide (B ≤ 999999) && decide (l.all (okCn big) =
 true) && decide (l.length ≤ big) && decide (0 ≤ 0) && decide (0 ≤ (↑steps.length:Int))) (.cnd (decide ((foldQP n (List.drop (Int.toNat 0) steps) l).snd.snd =
 0)) (.ok (PV.tup [.d (.slc 2 (foldQP n (List.drop (Int.toNat 0) steps) l).fst),.d (.int .i64 (0)),.d (.int .i64 (0))])) (.ok (PV.tup [PV.own 2 [],.d (.int
 .i64 (foldQP n (List.drop (Int.toNat 0) steps) l).snd.fst),.d (.int .i64 (foldQP n (List.drop (Int.toNat 0) steps) l).snd.snd)])))))) (.chk ((srcC k).all (okCn
 big) && decide ((srcC k).length ≤ big)) (.cnd (!rightC (srcC k)) (.ok (PV.tup [PV.own 2 [],.d (.int .i64 (0)),.d (.int .i64 (2))])) (.chk (decide (steps.length
 ≤ big) && decide (steps.all (okStep B n) = true) && decide (B ≤ 999999) && decide ((srcC k).all (okCn big) = true) && decide ((srcC k).length ≤ big) && decide (0
 ≤ 0) && decide (0 ≤ (↑steps.length:Int))) (.cnd (decide ((foldQP n (List.drop (Int.toNat 0) steps) (srcC k)).snd.snd = 0)) (.ok (PV.tup [.d (.slc 2 (foldQP n
 (List.drop (Int.toNat 0) steps) (srcC k)).fst),.d (.int .i64 (0)),.d (.int .i64 (0))])) (.ok (PV.tup [PV.own 2 [],.d (.int .i64 (foldQP n (List.drop
 (Int.toNat 0) steps) (srcC k)).snd.fst),.d (.int .i64 (foldQP n (List.drop (Int.toNat 0) steps) (srcC k)).snd.snd)]))))))))):=by kernel_rfl
theorem round17_0 (F:Nat) {R:Type} (l r:List DV) (i:Int) (K:Ex → St → Option R) (G:St → Option R):roundK (pcodeK (ctx F []) noL (lp Tryz.f17 0)) 0
 (allBut 26 [0,1,5] ++ temps (lp Tryz.f17 0)) (allBut 26 [4]) ⟨slots 26 [(0,.d (.slc 2 l)),(1,.d (.slc 2 r)),(5,.d (.int .i64 i))],[]⟩ K G = Tr.run (.cnd
 (decide (i < (↑l.length:Int))) (.chk (decide (0 ≤ i)) (.chk (decide (i.toNat < l.length)) (.chk (fits [.str [],.int .i64 0] (gt DV.nili l i.toNat).cells)
 (.chk (decide (0 ≤ i)) (.chk (decide (i.toNat < r.length)) (.chk (fits [.str [],.int .i64 0] (gt DV.nili r i.toNat).cells) (.cnd (!(decide (atS l i.toNat 0 =
 atS r i.toNat 0) && (decide (atI l i.toNat (0 + 1) = atI r i.toNat (0 + 1)) && true))) (.ok (.inl (Ex.ret,⟨slots 26 [(4,.d (.bool false))],[]⟩))) (.ok (.inr
 ⟨slots 26 [(0,.d (.slc 2 l)),(1,.d (.slc 2 r)),(5,.d (.int .i64 (IntKind.i64.wrap (i + 1))))],[]⟩))))))))) (.ok (.inl (Ex.exit 0,⟨slots 26 [],[]⟩))))
 (rnd K G):=by kernel_rfl
theorem fn17:FnOk Tryz.prog 17 26 [.tmp 4] (body Tryz.f17):=⟨Tryz.f17,Tryz.func17,bodySome _ (by kernel_rfl),by kernel_rfl,by kernel_rfl,by kernel_rfl,by kernel_rfl⟩
theorem run17 (F:Nat) (l r:List DV):runP (ctx F []) L17 26 [.tmp 4] (body Tryz.f17) [.d (.slc 2 l),.d (.slc 2 r)] = Tr.val (.cnd (!decide ((↑l.length :
 Int) = (↑r.length:Int))) (.ok (PV.d (.bool false))) (.chk (decide (l.length ≤ big) && decide (l.all (okCn ML) = true) && decide (r.all (okCn ML) = true) &&
 decide (l.length = r.length) && decide (0 ≤ 0) && decide (0 ≤ (↑l.length:Int))) (.cnd (sameL (List.drop (Int.toNat 0) l) (List.drop (Int.toNat 0) r)) (.ok
 (PV.d (.bool true))) (.ok (PV.d (.bool false)))))):=by kernel_rfl
end Go.PS
end

section
namespace Go.PS
open Go.Proofs
set_option linter.all false
theorem ok69 (W0:World) (B:Nat):EKOk Tryz.prog W0 69 (.pure (S69 B)):=by
  refine pure_of (tyOk FU [(68,.pure (S68 B)),(64,.pure S64),(23,.pure S22)]) (look_ok (all_cons (ok68 W0 B) (all_cons (ok64 W0) (all_cons (ok23 W0) all_nil)))) mixed fn69 (lpsOk_no _ _) fun args r h => ?_
  unfold S69 at h
  split at h
  · rename_i l sk k c vk vn vs L p cols bys m sp
    refine (run69 FU B l sk k c vk vn vs L p cols bys m sp).trans (Eq.trans ?_ h)
    simp only [Tr.val_chk,chk_some,Bool.and_eq_true,decide_eq_true_eq] at h
    obtain ⟨⟨⟨⟨⟨⟨⟨⟨⟨c0,c1⟩,c2⟩,c3⟩,c4⟩,c5⟩,c6⟩,c7⟩,c8⟩,c9⟩:=h.1
    clear h
    simp only [Bool.or_eq_true,decide_eq_true_eq] at c9
    have hB:B ≤ big:=by unfold big; omega
    have x1:=named_cn (once:=false) c0 cols [] rfl
    have y1:=named_cn (once:=false) c0 bys [] rfl
    have y2:=named_len (l:=l) (once:=false) bys []
    have x5:=named_full (l:=l) (once:=false) cols []
    have y3:=okCn_le y1 (B:=ML) (by unfold big ML; omega)
    simp only [List.length_nil,Nat.zero_add] at x5 y2
    unfold gatherG
    generalize namedG l false cols [] = X at *
    generalize namedG l false bys [] = Y at *
    have y4:Y.1.length ≤ big:=by unfold big; omega
    have lim:∀ x:DV,limit 24 (Y.1.length + ([x]).length) = true:=fun x => by
      unfold limit; simp only [List.length_singleton,decide_eq_true_eq]; omega
    have hy:∀ f,0 ≤ findC Y.1 f → 0 < bys.length ∧ fits [.str [],.bool false,.int .i64 0] (gt .nili bys 0).cells = true:=fun f q => by
      have a:=(findC_get q).1
      have a2:0 < bys.length:=by omega
      exact ⟨a2,okCol_fits (all_gt c3 (i:=0) (by omega) (by omega))⟩
    simp only [Tr.val_ok,Tr.val_cnd,Tr.val_chk,cnd_i,chk_i,Bool.and_eq_true,Bool.or_eq_true,decide_eq_true_eq,Int.toNat_zero,Nat.zero_add,lim,c0,c1,c2,c3,c4,c5,c6,c7,c8,c9,hB,y3,y4,and_self,if_true,ge_iff_le,Bool.not_eq_true',decide_eq_false_iff_not]
    by_cases q1:X.2.2 = 0
    · by_cases q2:Y.2.2 = 0
      · have x6:=x5 q1
        have hsk:sk = 5 ∨ sk = 6 ∨ sk = 7 ∨ sk = 8:=by omega
        rcases hsk with rfl | rfl | rfl | rfl
        · have e:∀ f,gatheredC 5 f = .agg [.str [110],.int .i64 1]:=fun f => rfl
          have e2:cS (.agg [.str [110],.int .i64 1]) 0 = [110]:=rfl
          rw [e,e2]
          have h6:=hy [110]
          by_cases q6:0 ≤ findC Y.1 [110]
          · simp [q1,q2,q6,h6 q6]
          · simp [q1,q2,q6]
        · have hc:0 < cols.length:=by omega
          have q3:0 < X.1.length:=by omega
          have hf:=okCn_fits (all_gt x1 (i:=0) (by omega) (by omega))
          have hcf:=okCol_fits (all_gt c2 (i:=0) (by omega) (by omega))
          simp only [Int.toNat_zero] at hf hcf
          have e0:ofK X.1 = atI X.1 0 1:=if_pos q3
          have e:∀ f,gatheredC 6 f = .agg [.str [116,111,116,97,108],.int .i64 1]:=fun f => rfl
          have e2:cS (.agg [.str [116,111,116,97,108],.int .i64 1]) 0 = [116,111,116,97,108]:=rfl
          rw [e,e2,e0]
          have h6:=hy [116,111,116,97,108]
          by_cases q5:atI X.1 0 1 = 2
          · simp [q1,q2,q3,q5,hf,hc,hcf]
          · by_cases q6:0 ≤ findC Y.1 [116,111,116,97,108]
            · simp [q1,q2,q3,q5,hf,hc,hcf,q6,h6 q6]
            · simp [q1,q2,q3,q5,hf,hc,hcf,q6]
        · have q3:0 < X.1.length:=by omega
          have hf:=okCn_fits (all_gt x1 (i:=0) (by omega) (by omega))
          simp only [Int.toNat_zero] at hf
          have e0:ofK X.1 = atI X.1 0 1:=if_pos q3
          have e:∀ f,gatheredC 7 f = .agg [.str [108,101,97,115,116],.int .i64 f]:=fun f => rfl
          have e2:∀ f,cS (.agg [.str [108,101,97,115,116],.int .i64 f]) 0 = [108,101,97,115,116]:=fun f => rfl
          rw [e,e2,e0]
          have h6:=hy [108,101,97,115,116]
          by_cases q6:0 ≤ findC Y.1 [108,101,97,115,116]
          · simp [q1,q2,q3,hf,q6,h6 q6]
          · simp [q1,q2,q3,hf,q6]
        · have q3:0 < X.1.length:=by omega
          have hf:=okCn_fits (all_gt x1 (i:=0) (by omega) (by omega))
          simp only [Int.toNat_zero] at hf
          have e0:ofK X.1 = atI X.1 0 1:=if_pos q3
          have e:∀ f,gatheredC 8 f = .agg [.str [109,111,115,116],.int .i64 f]:=fun f => rfl
          have e2:∀ f,cS (.agg [.str [109,111,115,116],.int .i64 f]) 0 = [109,111,115,116]:=fun f => rfl
          rw [e,e2,e0]
          have h6:=hy [109,111,115,116]
          by_cases q6:0 ≤ findC Y.1 [109,111,115,116]
          · simp [q1,q2,q3,hf,q6,h6 q6]
          · simp [q1,q2,q3,hf,q6]
      · simp [q1,q2]
    · simp [q1]
  · simp [Tr.val_no] at h
theorem ok25x (W0:World) (hW:Laid W0) (B n:Nat):EKOk Tryz.prog W0 25 (.pure (S25x B n)):=by
  refine pure_of (tyOk FU [(61,.pure S61),(60,.pure (S60 B n)),(67,.pure (S67 B n)),(68,.pure (S68 B)),(69,.pure (S69 B))]) (look_ok (all_cons (ok61 W0 hW) (all_cons (ok60 W0 B n) (all_cons (ok67 W0 B n) (all_cons (ok68 W0 B) (all_cons (ok69 W0 B) all_nil)))))) mixed fn25 (lpsOk_no _ _) fun args r h => ?_
  unfold S25x at h
  split at h
  · rename_i l v
    simp only [Tr.val_chk,chk_some,Bool.and_eq_true,decide_eq_true_eq] at h
    obtain ⟨⟨⟨⟨c0,c1⟩,hv⟩,hB⟩,h⟩:=h
    obtain ⟨sk,k,c,vk,vn,vs,L,p,cols,bys,m,sp,rfl,h1,h2,h3,h4,h5,h6⟩:=okStep_inv hv
    refine (run25 FU B n l sk k c vk vn vs L p cols bys m sp).trans (Eq.trans ?_ h)
    have hB2:B ≤ big:=by unfold big; omega
    have hal:=alone_eq n (.agg [.int .i64 sk,.int .i64 k,.str c,.int .i64 vk,.int .i64 vn,.str vs,.slc 7 L,.int .i64 p,.slc 3 cols,.slc 3 bys,.int .i64 m,.int .i64 sp])
    have hls:aloneB n (.agg [.int .i64 sk,.int .i64 k,.str c,.int .i64 vk,.int .i64 vn,.str vs,.slc 7 L,.int .i64 p,.slc 3 cols,.slc 3 bys,.int .i64 m,.int .i64 sp]) = true → 1 ≤ sk ∧ sk ≤ 8 ∧ (6 ≤ sk → cols.length = 1):=fun q => by
      have:=step_lens (n:=n) (s:=.agg [.int .i64 sk,.int .i64 k,.str c,.int .i64 vk,.int .i64 vn,.str vs,.slc 7 L,.int .i64 p,.slc 3 cols,.slc 3 bys,.int .i64 m,.int .i64 sp]) (by rw [← hal]; exact q)
      exact ⟨this.1,this.2.1,this.2.2.2.2.1⟩
    have e4:rightQ n 9 0 0 [] [118] [] 0 false 0 [] 0 false 0 [.agg [.int .i64 sk,.int .i64 k,.str c,.int .i64 vk,.int .i64 vn,.str vs,.slc 7 L,.int .i64 p,.slc 3 cols,.slc 3 bys,.int .i64 m,.int .i64 sp]] = aloneB n (.agg [.int .i64 sk,.int .i64 k,.str c,.int .i64 vk,.int .i64 vn,.str vs,.slc 7 L,.int .i64 p,.slc 3 cols,.slc 3 bys,.int .i64 m,.int .i64 sp]):=rfl
    have e0:stepR n l (.agg [.int .i64 sk,.int .i64 k,.str c,.int .i64 vk,.int .i64 vn,.str vs,.slc 7 L,.int .i64 p,.slc 3 cols,.slc 3 bys,.int .i64 m,.int .i64 sp]) = if rightC l = false ∨ aloneB n (.agg [.int .i64 sk,.int .i64 k,.str c,.int .i64 vk,.int .i64 vn,.str vs,.slc 7 L,.int .i64 p,.slc 3 cols,.slc 3 bys,.int .i64 m,.int .i64 sp]) = false then ([],0,2) else
      if sk = 1 then (if (whereQ l n (.agg [.int .i64 k,.str c,.int .i64 vk,.int .i64 vn,.str vs,.slc 7 L,.int .i64 p])).2 = 0 then (l,0,0) else ([],whereQ l n (.agg [.int .i64 k,.str c,.int .i64 vk,.int .i64 vn,.str vs,.slc 7 L,.int .i64 p]))) else
      if sk = 2 then namedG l true cols [] else
      if sk = 3 then (if (namedG l false cols []).2.2 = 0 then (l,0,0) else ([],(namedG l false cols []).2)) else
      if sk = 4 then (l,0,0) else gatherG l cols bys sk:=rfl
    have e1:lentR n l (.agg [.int .i64 sk,.int .i64 k,.str c,.int .i64 vk,.int .i64 vn,.str vs,.slc 7 L,.int .i64 p,.slc 3 cols,.slc 3 bys,.int .i64 m,.int .i64 sp]) = (decide ((stepR n l (.agg [.int .i64 sk,.int .i64 k,.str c,.int .i64 vk,.int .i64 vn,.str vs,.slc 7 L,.int .i64 p,.slc 3 cols,.slc 3 bys,.int .i64 m,.int .i64 sp])).2.2 = 0) && (decide (sk = 1) || decide (sk = 3) || decide (sk = 4))):=rfl
    have e5:([.agg [.int .i64 sk,.int .i64 k,.str c,.int .i64 vk,.int .i64 vn,.str vs,.slc 7 L,.int .i64 p,.slc 3 cols,.slc 3 bys,.int .i64 m,.int .i64 sp]]:List DV).all (okStep B n) = true:=by simpa using hv
    have e6:([DV.agg [.int .i64 sk,.int .i64 k,.str c,.int .i64 vk,.int .i64 vn,.str vs,.slc 7 L,.int .i64 p,.slc 3 cols,.slc 3 bys,.int .i64 m,.int .i64 sp]]:List DV).length ≤ big:=by unfold big; simp
    have e7:lensQ big [] [118] [] [] = true:=by rfl
    have n1:=named_canon l true cols
    have n3:=gather_canon l cols bys sk
    rw [e1,e0]
    simp only [Tr.val_ok,Tr.val_cnd,Tr.val_chk,cnd_i,chk_i,Bool.and_eq_true,Bool.or_eq_true,decide_eq_true_eq,c0,c1,h1,h2,h3,h5,h6,hB,hB2,e4,e5,e6,e7,and_self,and_true,true_and,if_true,Bool.not_eq_true',decide_eq_false_iff_not]
    clear h hv h1 h2 h3 e0 e1 e4 e5 e6 hal
    generalize aloneB n (.agg [.int .i64 sk,.int .i64 k,.str c,.int .i64 vk,.int .i64 vn,.str vs,.slc 7 L,.int .i64 p,.slc 3 cols,.slc 3 bys,.int .i64 m,.int .i64 sp]) = A at *
    generalize whereQ l n (.agg [.int .i64 k,.str c,.int .i64 vk,.int .i64 vn,.str vs,.slc 7 L,.int .i64 p]) = W at *
    generalize namedG l true cols [] = X at *
    generalize namedG l false cols [] = Y at *
    generalize gatherG l cols bys sk = Z at *
    generalize rightC l = R at *
    cases R
    · simp
    cases A
    · simp
    obtain ⟨s1,s2,s3⟩:=hls rfl
    simp only [Bool.true_eq_false,if_false,or_self]
    by_cases k1:sk = 1
    · subst k1
      by_cases q:W.2 = 0
      · simp [q]
      · simp [q]
    by_cases k2:sk = 2
    · subst k2
      by_cases q:X.2.2 = 0
      · rw [if_neg (by simpa using q)] at n1
        rw [n1]; simp
      · rw [if_pos q] at n1
        have:X.1 = []:=by rw [n1]
        simp [q,this]
    by_cases k3:sk = 3
    · subst k3
      by_cases q:Y.2.2 = 0
      · simp [q]
      · simp [q]
    by_cases k4:sk = 4
    · simp [k4]
    have k5:5 ≤ sk:=by omega
    have k6:sk = 5 ∨ 1 ≤ cols.length:=by omega
    simp [k1,k2,k3,k4,k5,s2,k6]
  · simp [Tr.val_no] at h
theorem ok25 (W0:World) (hW:Laid W0) (B n:Nat):EKOk Tryz.prog W0 25 (.pure (S25 B n)):=by
  refine pure_low (ok25x W0 hW B n) fun args v' h => ?_
  unfold S25 at h
  split at h
  · rename_i l v
    simp only [Tr.val_chk,chk_some,Tr.val_ok,Option.some.injEq] at h
    obtain ⟨hc,rfl⟩:=h
    unfold S25x
    simp only [Tr.val_chk,Tr.val_cnd,Tr.val_ok]
    rw [chk_t hc]
    cases lentR n l v
    · exact ⟨_,rfl,rfl⟩
    · exact ⟨_,rfl,rfl⟩
  · simp [Tr.val_no] at h
theorem loop16_0 (F:Nat) {R:Type} (B:Nat) (n:Nat) (k:Int) (f:Int) (t:Int) (path:Str) (name:Str) (b:Str) (c:Int) (a:Bool) (ti:Int) (p1:Int) (b2:Str) (cm2:Int) (a2:Bool) (ti2:Int) (p2:Int) (p3:Int) (steps:List DV) (K:Ex → St → Option R) (g0:steps.length ≤ big) (g1:steps.all (okStep B n) = true) (g2:B ≤ 999999) :
    ∀ (m:Nat) (l:List DV) (i:Int),l.all (okCn big) = true → l.length ≤ big → 0 ≤ i → i ≤ steps.length → (steps.length - i).toNat < m →
      loopK (pcodeK (ctx F [(60,.pure (S60 B n)),(19,.pure S18),(61,.pure S61),(25,.pure (S25 B n))]) noL (lp Tryz.f16 0)) 1 (allBut 50 [3,7,8] ++ temps (lp Tryz.f16 0)) (allBut 50 [4,5,6,7]) m
        ⟨slots 50 [(3,.ptr 0 0),(7,.d (.slc 2 l)),(8,.d (.int .i64 i))],[.cells [.d (.int .i64 k),.d (.int .i64 f),.d (.int .i64 t),.d (.str path),.d (.str name),.d (.str b),.d (.int .i64 c),.d (.bool a),.d (.int .i64 ti),.d (.int .i64 p1),.d (.str b2),.d (.int .i64 cm2),.d (.bool a2),.d (.int .i64 ti2),.d (.int .i64 p2),.d (.int .i64 p3),.d (.slc 12 steps)]]⟩ K =
      Tr.run (.cnd (decide ((foldQP n (steps.drop i.toNat) l).2.2 = 0)) (.ok (.exit 0,⟨slots 50 [(7,.d (.slc 2 (foldQP n (steps.drop i.toNat) l).1))],[.cells [.d (.int .i64 k),.d (.int .i64 f),.d (.int .i64 t),.d (.str path),.d (.str name),.d (.str b),.d (.int .i64 c),.d (.bool a),.d (.int .i64 ti),.d (.int .i64 p1),.d (.str b2),.d (.int .i64 cm2),.d (.bool a2),.d (.int .i64 ti2),.d (.int .i64 p2),.d (.int .i64 p3),.d (.slc 12 steps)]]⟩)) (.ok (.ret,⟨slots 50 [(4,.own 2 []),(5,.d (.int .i64 (foldQP n (steps.drop i.toNat) l).2.1)),(6,.d (.int .i64 (foldQP n (steps.drop i.toNat) l).2.2)),(7,.d (.slc 2 (foldQP n (steps.drop i.toNat) l).1))],[.cells [.d (.int .i64 k),.d (.int .i64 f),.d (.int .i64 t),.d (.str path),.d (.str name),.d (.str b),.d (.int .i64 c),.d (.bool a),.d (.int .i64 ti),.d (.int .i64 p1),.d (.str b2),.d (.int .i64 cm2),.d (.bool a2),.d (.int .i64 ti2),.d (.int .i64 p2),.d (.int .i64 p3),.d (.slc 12 steps)]]⟩))) (fun p => K p.1 p.2):=by
  intro m
  induction m with
  | zero => intro l i; intros; omega
  | succ m ih =>
    intro l i h0 h1 h2 h3 hm
    rw [loopK_succ,round16_0]
    unfold big at g0
    simp only [Tr.run,rnd,cnd_i,chk_i,Bool.and_eq_true,decide_eq_true_eq]
    by_cases hi:i < steps.length
    · have w:IntKind.i64.wrap (i + 1) = i + 1:=wrap64 (by omega) (by omega)
      have hx:=all_gt g1 (i:=i) (by omega) (by omega)
      have ht:=okStep_fits hx
      rw [okStep_view hx]
      have hcn:=stepR_cn h0 h1 hx g2
      have ih1:=ih (stepR n l (gt .nili steps i.toNat)).1 (i + 1) hcn.1 hcn.2 (by omega) (by omega) (by omega)
      simp only [Tr.run,cnd_i,decide_eq_true_eq] at ih1
      rw [foldQP_drop (by omega) (by omega)]
      clear ih
      have hj:i.toNat < steps.length:=by omega
      simp only [hi,h2,hj,ht,hx,h0,h1,g2,w,and_self,if_true]
      generalize stepR n l (gt .nili steps i.toNat) = X at *
      by_cases q:X.2.2 = 0
      · simp only [q,ne_eq,not_true_eq_false,if_false,decide_true,Bool.not_true,Bool.false_eq_true]
        exact ih1
      · simp [q]
    · have:steps.drop i.toNat = []:=List.drop_of_length_le (by omega)
      rw [this]
      simp [hi,foldQP]
theorem lps16 (F:Nat) (hF:F = FU) (B n:Nat):LpsOk (ctx F [(60,.pure (S60 B n)),(19,.pure S18),(61,.pure S61),(25,.pure (S25 B n))]) (L16 B n) (loopsOf (body Tryz.f16)):=by
  subst hF
  refine lps_one (c:=lp Tryz.f16 0) rfl (by kernel_rfl) fun R st K r h => ?_
  unfold T16_0 at h
  cases hs:shape 50 [3,7,8] st.slots with
  | false => rw [hs] at h; simp [Tr.run] at h
  | true =>
  rw [hs] at h
  simp only [cond_true] at h
  have he:=shape_eq hs
  obtain ⟨sl0,H⟩:=st
  dsimp only at h he ⊢
  split at h
  · rename_i l i k f t path name b c a ti p1 b2 cm2 a2 ti2 p2 p3 steps g0_ g1_ g2_
    simp only [List.map_cons,List.map_nil,g0_,g1_,g2_] at he
    subst he
    simp only [Tr.run] at h
    cases hc:(decide (steps.length ≤ big) && decide (steps.all (okStep B n) = true) && decide (B ≤ 999999) && decide (l.all (okCn big) = true) && decide (l.length ≤ big) && decide (0 ≤ i) && decide (i ≤ steps.length)) with
    | false => rw [hc] at h; simp at h
    | true =>
    rw [hc] at h
    simp only [Bool.and_eq_true,decide_eq_true_eq] at hc
    obtain ⟨⟨⟨⟨⟨⟨c0,c1⟩,c2⟩,c3⟩,c4⟩,c5⟩,c6⟩:=hc
    refine (loop16_0 FU B n k f t path name b c a ti p1 b2 cm2 a2 ti2 p2 p3 steps K c0 c1 c2 FU l i c3 c4 c5 c6 (by unfold FU; (try unfold big at *); omega)).trans ?_
    rw [← h]
    rfl
  · simp [Tr.run] at h
theorem ok16x (W0:World) (hW:Laid W0) (B n:Nat):EKOk Tryz.prog W0 16 (.pure (S16x B n)):=by
  refine pure_of (tyOk FU [(60,.pure (S60 B n)),(19,.pure S18),(61,.pure S61),(25,.pure (S25 B n))]) (look_ok (all_cons (ok60 W0 B n) (all_cons (ok19 W0) (all_cons (ok61 W0 hW) (all_cons (ok25 W0 hW B n) all_nil))))) mixed fn16 (lps16 FU rfl B n) fun args r h => ?_
  unfold S16x at h
  split at h
  · rename_i l k f t path name b c a ti p1 b2 cm2 a2 ti2 p2 p3 steps
    refine (run16 FU B n l k f t path name b c a ti p1 b2 cm2 a2 ti2 p2 p3 steps).trans (Eq.trans ?_ h)
    simp only [Tr.val_chk,chk_some,Bool.and_eq_true,decide_eq_true_eq] at h
    obtain ⟨⟨⟨⟨⟨c0,c1⟩,c2⟩,c3⟩,c4⟩,c5⟩:=h.1
    clear h
    have hB2:B ≤ big:=by unfold big; omega
    obtain ⟨s1,s2⟩:=src_cn k
    have s2:(srcC k).length ≤ big:=by unfold big; omega
    have hat:=foldQP_zero n steps
    unfold colsOf queryR
    simp only [foldQ_P n steps]
    simp only [Tr.val_ok,Tr.val_cnd,Tr.val_chk,cnd_i,chk_i,Bool.and_eq_true,decide_eq_true_eq,List.drop_zero,Int.toNat_zero,c0,c1,c2,c3,c4,c5,hB2,s1,s2,Int.le_refl,Int.natCast_nonneg,and_self,and_true,if_true]
    generalize rightQ n k f t path name b c a ti b2 cm2 a2 ti2 steps = R at *
    have key:∀ l:List DV,(if R = true then (if rightC l = true then (if (foldQP n steps l).2.2 = 0 then some (PV.tup [PV.d (.slc 2 (foldQP n steps l).1),PV.d (DV.int IntKind.i64 0),PV.d (DV.int IntKind.i64 0)]) else some (PV.tup [PV.own 2 [],PV.d (DV.int IntKind.i64 (foldQP n steps l).2.1),PV.d (DV.int IntKind.i64 (foldQP n steps l).2.2)])) else some (PV.tup [PV.own 2 [],PV.d (DV.int IntKind.i64 0),PV.d (DV.int IntKind.i64 2)])) else some (PV.tup [PV.own 2 [],PV.d (DV.int IntKind.i64 0),PV.d (DV.int IntKind.i64 2)])) =
        (if (if R = false ∨ rightC l = false then (([],0,2):List DV × Int × Int) else if (foldQP n steps l).2.2 ≠ 0 then ([],(foldQP n steps l).2) else foldQP n steps l).2.2 = 0 then some (PV.tup [PV.d (.slc 2 (if R = false ∨ rightC l = false then (([],0,2):List DV × Int × Int) else if (foldQP n steps l).2.2 ≠ 0 then ([],(foldQP n steps l).2) else foldQP n steps l).1),PV.d (DV.int IntKind.i64 0),PV.d (DV.int IntKind.i64 0)]) else
          some (PV.tup [PV.own 2 [],PV.d (DV.int IntKind.i64 (if R = false ∨ rightC l = false then (([],0,2):List DV × Int × Int) else if (foldQP n steps l).2.2 ≠ 0 then ([],(foldQP n steps l).2) else foldQP n steps l).2.1),PV.d (DV.int IntKind.i64 (if R = false ∨ rightC l = false then (([],0,2):List DV × Int × Int) else if (foldQP n steps l).2.2 ≠ 0 then ([],(foldQP n steps l).2) else foldQP n steps l).2.2)])):=fun l => by
      generalize foldQP n steps l = X at *
      generalize rightC l = Z at *
      cases R
      · simp
      · cases Z
        · simp
        · by_cases q:X.2.2 = 0
          · simp [q]
          · simp [q]
    by_cases k9:k = 9
    · have:=key l
      simp only [k9,if_true] at this ⊢
      rw [← this]
      cases R <;> cases rightC l <;> simp
    · have:=key (srcC k)
      simp only [k9,if_false] at this ⊢
      rw [← this]
      cases R <;> cases rightC (srcC k) <;> simp
  · simp [Tr.val_no] at h
theorem loop17_0 (F:Nat) {R:Type} (l:List DV) (r:List DV) (K:Ex → St → Option R) (g0:l.length ≤ big) (g1:l.all (okCn ML) = true) (g2:r.all (okCn ML) = true) (g3:l.length = r.length) :
    ∀ (m:Nat) (i:Int),0 ≤ i → i ≤ l.length → (l.length - i).toNat < m →
      loopK (pcodeK (ctx F []) noL (lp Tryz.f17 0)) 0 (allBut 26 [0,1,5] ++ temps (lp Tryz.f17 0)) (allBut 26 [4]) m
        ⟨slots 26 [(0,.d (.slc 2 l)),(1,.d (.slc 2 r)),(5,.d (.int .i64 i))],[]⟩ K =
      Tr.run (.cnd (sameL (l.drop i.toNat) (r.drop i.toNat)) (.ok (.exit 0,⟨slots 26 [],[]⟩)) (.ok (.ret,⟨slots 26 [(4,.d (.bool false))],[]⟩))) (fun p => K p.1 p.2):=by
  intro m
  induction m with
  | zero => intro i; intros; omega
  | succ m ih =>
    intro i h0 h1 hm
    rw [loopK_succ,round17_0]
    unfold big at g0
    simp only [Tr.run,rnd,cnd_i,chk_i,Bool.and_eq_true,decide_eq_true_eq]
    by_cases hi:i < l.length
    · have w:IntKind.i64.wrap (i + 1) = i + 1:=wrap64 (by omega) (by omega)
      have hx:=okCn_fits (all_gt g1 (i:=i) (by omega) (by omega))
      have hy:=okCn_fits (all_gt g2 (i:=i) (by omega) (by omega))
      have hj:i.toNat < l.length:=by omega
      have hj2:i.toNat < r.length:=by omega
      have ih1:=ih (i + 1)
      simp only [Tr.run,cnd_i] at ih1
      rw [sameL_drop (by omega) (by omega) (by omega)]
      clear ih
      rw [hx,hy]
      grind
    · have e1:l.drop i.toNat = []:=List.drop_of_length_le (by omega)
      have e2:r.drop i.toNat = []:=List.drop_of_length_le (by omega)
      rw [e1,e2]
      simp [hi,sameL]
theorem lps17 (F:Nat) (hF:F = FU):LpsOk (ctx F []) L17 (loopsOf (body Tryz.f17)):=by
  subst hF
  refine lps_one (c:=lp Tryz.f17 0) rfl (by kernel_rfl) fun R st K r h => ?_
  unfold T17_0 at h
  cases hs:shape 26 [0,1,5] st.slots with
  | false => rw [hs] at h; simp [Tr.run] at h
  | true =>
  rw [hs] at h
  simp only [cond_true] at h
  have he:=shape_eq hs
  obtain ⟨sl0,H⟩:=st
  dsimp only at h he ⊢
  split at h
  · rename_i l r i g0_ g1_ g2_
    simp only [List.map_cons,List.map_nil,g0_,g1_,g2_] at he
    subst he
    simp only [Tr.run] at h
    cases hc:(decide (l.length ≤ big) && decide (l.all (okCn ML) = true) && decide (r.all (okCn ML) = true) && decide (l.length = r.length) && decide (0 ≤ i) && decide (i ≤ l.length)) with
    | false => rw [hc] at h; simp at h
    | true =>
    rw [hc] at h
    simp only [Bool.and_eq_true,decide_eq_true_eq] at hc
    obtain ⟨⟨⟨⟨⟨c0,c1⟩,c2⟩,c3⟩,c4⟩,c5⟩:=hc
    refine (loop17_0 FU l r K c0 c1 c2 c3 FU i c4 c5 (by unfold FU; (try unfold big at *); omega)).trans ?_
    rw [← h]
    rfl
  · simp [Tr.run] at h
theorem ok17 (W0:World):EKOk Tryz.prog W0 17 (.pure S17):=by
  refine pure_of (tyOk FU []) (look_ok all_nil) mixed fn17 (lps17 FU rfl) fun args r h => ?_
  unfold S17 at h
  split at h
  · rename_i l r
    refine (run17 FU l r).trans (Eq.trans ?_ h)
    simp only [Tr.val_chk,chk_some,Bool.and_eq_true,decide_eq_true_eq] at h
    obtain ⟨⟨c0,c1⟩,c2⟩:=h.1
    clear h
    have e1:((l.length:Int) = (r.length:Int)) ↔ l.length = r.length:=by omega
    simp only [Tr.val_ok,Tr.val_cnd,Tr.val_chk,cnd_i,chk_i,Bool.and_eq_true,decide_eq_true_eq,List.drop_zero,Int.toNat_zero,e1,c0,c1,c2,Int.le_refl,Int.natCast_nonneg,and_self,and_true,true_and,if_true,Bool.not_eq_true',decide_eq_false_iff_not,sameC]
    by_cases q:l.length = r.length
    · simp only [q,not_true_eq_false,if_false,if_true,decide_true,Bool.true_and]
      cases sameL l r <;> rfl
    · simp [q]
  · simp [Tr.val_no] at h
end Go.PS
end

section
namespace Go.PS
open Go.Proofs
set_option maxRecDepth 100000
set_option linter.all false
def ofO {α:Type}:Option α → Tr α
  | some a => .ok a
  | none => .no
theorem ofO_val {α:Type} (o:Option α):(ofO o).val = o:=by cases o <;> rfl
theorem fx89:FnOk Tryz.prog 89 29 [.cell 2 30] (body Tryz.f89):=⟨Tryz.f89,Tryz.func89,bodySome _ (by kernel_rfl),by kernel_rfl,by kernel_rfl,by kernel_rfl,by kernel_rfl⟩
theorem fx156:FnOk Tryz.prog 156 64 [.cell 2 27] (body Tryz.f156):=⟨Tryz.f156,Tryz.func156,bodySome _ (by kernel_rfl),by kernel_rfl,by kernel_rfl,by kernel_rfl,by kernel_rfl⟩
theorem fx160:FnOk Tryz.prog 160 20 [.tmp 2] (body Tryz.f160):=⟨Tryz.f160,Tryz.func160,bodySome _ (by kernel_rfl),by kernel_rfl,by kernel_rfl,by kernel_rfl,by kernel_rfl⟩
theorem fx159:FnOk Tryz.prog 159 8 [] (body Tryz.f159):=⟨Tryz.f159,Tryz.func159,bodySome _ (by kernel_rfl),by kernel_rfl,by kernel_rfl,by kernel_rfl,by kernel_rfl⟩
theorem fx215:FnOk Tryz.prog 215 22 [.tmp 6] (body Tryz.f215):=⟨Tryz.f215,Tryz.func215,bodySome _ (by kernel_rfl),by kernel_rfl,by kernel_rfl,by kernel_rfl,by kernel_rfl⟩
theorem fx244:FnOk Tryz.prog 244 19 [.tmp 4] (body Tryz.f244):=⟨Tryz.f244,Tryz.func244,bodySome _ (by kernel_rfl),by kernel_rfl,by kernel_rfl,by kernel_rfl,by kernel_rfl⟩
theorem fx245:FnOk Tryz.prog 245 9 [.tmp 4] (body Tryz.f245):=⟨Tryz.f245,Tryz.func245,bodySome _ (by kernel_rfl),by kernel_rfl,by kernel_rfl,by kernel_rfl,by kernel_rfl⟩
theorem fx246:FnOk Tryz.prog 246 35 [.tmp 6] (body Tryz.f246):=⟨Tryz.f246,Tryz.func246,bodySome _ (by kernel_rfl),by kernel_rfl,by kernel_rfl,by kernel_rfl,by kernel_rfl⟩
theorem fx216:FnOk Tryz.prog 216 15 [.tmp 2] (body Tryz.f216):=⟨Tryz.f216,Tryz.func216,bodySome _ (by kernel_rfl),by kernel_rfl,by kernel_rfl,by kernel_rfl,by kernel_rfl⟩
theorem fx217:FnOk Tryz.prog 217 41 [.cell 4 142] (body Tryz.f217):=⟨Tryz.f217,Tryz.func217,bodySome _ (by kernel_rfl),by kernel_rfl,by kernel_rfl,by kernel_rfl,by kernel_rfl⟩
theorem fx218:FnOk Tryz.prog 218 31 [.cell 2 25] (body Tryz.f218):=⟨Tryz.f218,Tryz.func218,bodySome _ (by kernel_rfl),by kernel_rfl,by kernel_rfl,by kernel_rfl,by kernel_rfl⟩
theorem fx247:FnOk Tryz.prog 247 10 [.tmp 4] (body Tryz.f247):=⟨Tryz.f247,Tryz.func247,bodySome _ (by kernel_rfl),by kernel_rfl,by kernel_rfl,by kernel_rfl,by kernel_rfl⟩
theorem fx157:FnOk Tryz.prog 157 10 [.tmp 4] (body Tryz.f157):=⟨Tryz.f157,Tryz.func157,bodySome _ (by kernel_rfl),by kernel_rfl,by kernel_rfl,by kernel_rfl,by kernel_rfl⟩
theorem fx158:FnOk Tryz.prog 158 75 [.cell 4 54] (body Tryz.f158):=⟨Tryz.f158,Tryz.func158,bodySome _ (by kernel_rfl),by kernel_rfl,by kernel_rfl,by kernel_rfl,by kernel_rfl⟩
theorem fx219:FnOk Tryz.prog 219 7 [.cell 2 51] (body Tryz.f219):=⟨Tryz.f219,Tryz.func219,bodySome _ (by kernel_rfl),by kernel_rfl,by kernel_rfl,by kernel_rfl,by kernel_rfl⟩
theorem fx248:FnOk Tryz.prog 248 28 [.cell 8 51] (body Tryz.f248):=⟨Tryz.f248,Tryz.func248,bodySome _ (by kernel_rfl),by kernel_rfl,by kernel_rfl,by kernel_rfl,by kernel_rfl⟩
theorem fx249:FnOk Tryz.prog 249 7 [.cell 2 51] (body Tryz.f249):=⟨Tryz.f249,Tryz.func249,bodySome _ (by kernel_rfl),by kernel_rfl,by kernel_rfl,by kernel_rfl,by kernel_rfl⟩
theorem fx266:FnOk Tryz.prog 266 30 [.cell 2 51] (body Tryz.f266):=⟨Tryz.f266,Tryz.func266,bodySome _ (by kernel_rfl),by kernel_rfl,by kernel_rfl,by kernel_rfl,by kernel_rfl⟩
theorem fx279:FnOk Tryz.prog 279 53 [.cell 2 51] (body Tryz.f279):=⟨Tryz.f279,Tryz.func279,bodySome _ (by kernel_rfl),by kernel_rfl,by kernel_rfl,by kernel_rfl,by kernel_rfl⟩
theorem fx287:FnOk Tryz.prog 287 7 [.cell 2 48] (body Tryz.f287):=⟨Tryz.f287,Tryz.func287,bodySome _ (by kernel_rfl),by kernel_rfl,by kernel_rfl,by kernel_rfl,by kernel_rfl⟩
theorem fx220:FnOk Tryz.prog 220 32 [.tmp 4] (body Tryz.f220):=⟨Tryz.f220,Tryz.func220,bodySome _ (by kernel_rfl),by kernel_rfl,by kernel_rfl,by kernel_rfl,by kernel_rfl⟩
theorem fx221:FnOk Tryz.prog 221 8 [.tmp 2] (body Tryz.f221):=⟨Tryz.f221,Tryz.func221,bodySome _ (by kernel_rfl),by kernel_rfl,by kernel_rfl,by kernel_rfl,by kernel_rfl⟩
theorem fx222:FnOk Tryz.prog 222 9 [.tmp 2] (body Tryz.f222):=⟨Tryz.f222,Tryz.func222,bodySome _ (by kernel_rfl),by kernel_rfl,by kernel_rfl,by kernel_rfl,by kernel_rfl⟩
noncomputable def lsX:List (Nat × Nat × List ResultVar × Code):=[(89,29,[.cell 2 30],body Tryz.f89),
  (156,64,[.cell 2 27],body Tryz.f156),
  (160,20,[.tmp 2],body Tryz.f160),
  (159,8,[],body Tryz.f159),
  (215,22,[.tmp 6],body Tryz.f215),
  (244,19,[.tmp 4],body Tryz.f244),
  (245,9,[.tmp 4],body Tryz.f245),
  (246,35,[.tmp 6],body Tryz.f246),
  (216,15,[.tmp 2],body Tryz.f216),
  (217,41,[.cell 4 142],body Tryz.f217),
  (218,31,[.cell 2 25],body Tryz.f218),
  (247,10,[.tmp 4],body Tryz.f247),
  (157,10,[.tmp 4],body Tryz.f157),
  (158,75,[.cell 4 54],body Tryz.f158),
  (219,7,[.cell 2 51],body Tryz.f219),
  (248,28,[.cell 8 51],body Tryz.f248),
  (249,7,[.cell 2 51],body Tryz.f249),
  (266,30,[.cell 2 51],body Tryz.f266),
  (279,53,[.cell 2 51],body Tryz.f279),
  (287,7,[.cell 2 48],body Tryz.f287),
  (220,32,[.tmp 4],body Tryz.f220),
  (221,8,[.tmp 2],body Tryz.f221),
  (222,9,[.tmp 2],body Tryz.f222)]
theorem lsX_ok:∀ p ∈ lsX,FnOk Tryz.prog p.1 p.2.1 p.2.2.1 p.2.2.2:=by
  intro p hp
  simp only [lsX,List.mem_cons,List.not_mem_nil,or_false] at hp
  rcases hp with rfl | rfl | rfl | rfl | rfl | rfl | rfl | rfl | rfl | rfl | rfl | rfl | rfl | rfl | rfl | rfl | rfl | rfl | rfl | rfl | rfl | rfl | rfl
  · exact fx89
  · exact fx156
  · exact fx160
  · exact fx159
  · exact fx215
  · exact fx244
  · exact fx245
  · exact fx246
  · exact fx216
  · exact fx217
  · exact fx218
  · exact fx247
  · exact fx157
  · exact fx158
  · exact fx219
  · exact fx248
  · exact fx249
  · exact fx266
  · exact fx279
  · exact fx287
  · exact fx220
  · exact fx221
  · exact fx222
def baseX:List (Nat × EK):=[(129,.pure S129),(134,.pure S134),(85,.pure S85),(33,.pure (S33 999999 100)),(201,.pure S201)]
noncomputable def envX (g:Nat × List ResultVar × Code → List PV → List PObj → Tr (Out × List PObj)):List (Nat × EK):=baseX ++ lsX.map fun p => (p.1,.fr (g p.2))
noncomputable def xE:Nat → Nat × List ResultVar × Code → List PV → List PObj → Tr (Out × List PObj)
  | 0,_ => fun _ _ => .no
  | k + 1,x => fun a H => ofO (runE (ctx FU (envX fun y => xE k y)) noL x.1 x.2.1 x.2.2 a H)
theorem okX (W0:World) (hW:Laid W0):∀ (k:Nat),∀ p ∈ lsX,EKOk Tryz.prog W0 p.1 (.fr (xE k p.2)):=by
  intro k
  induction k with
  | zero => exact fun p hp => fr_of (tyOk FU []) (look_ok all_nil) mixed (lsX_ok p hp) (lpsOk_no _ _) fun args H r h => by cases h
  | succ k ih =>
    intro p hp
    refine fr_of (tyOk FU (envX fun y => xE k y)) (look_ok fun q hq => ?_) mixed (lsX_ok p hp) (lpsOk_no _ _) fun args H r h => by
      have h2:(ofO (runE (ctx FU (envX fun y => xE k y)) noL p.2.1 p.2.2.1 p.2.2.2 args H)).val = some r:=h
      rw [ofO_val] at h2; exact h2
    unfold envX at hq
    rcases List.mem_append.1 hq with hq | hq
    · exact (all_cons (ok129 W0) (all_cons (ok134 W0) (all_cons (ok85 W0) (all_cons (ok33 W0 999999 100) (all_cons (ok201 W0) all_nil))))) q hq
    · obtain ⟨p',hp',rfl⟩:=List.mem_map.1 hq
      exact ih p' hp'
noncomputable def x89:Nat × List ResultVar × Code:=(29,[.cell 2 30],body Tryz.f89)
noncomputable def S37e:List PV → List PObj → Tr (Out × List PObj):=fun args H => ofO (runDE (ctx 0 [(42,.pure S42p),(89,.fr (xE 30 x89))]) noL 28 [.cell 2 30,.cell 3 3,.cell 4 33] (headsC 3 (body Tryz.f37)) (opAt (hdS (dropC 3 (body Tryz.f37))) 0) 18 88 (tlS (dropC 3 (body Tryz.f37))) (frameD S88) args H)
theorem ok88w (W0:World):SoundD Tryz.prog W0 88 (frameD S88):=by
  refine SoundD.frame (recov_of (tyOk 0 []) (look_ok all_nil) mixed rc88 (lpsOk_no _ _) fun m args H r h => ?_)
  unfold S88 at h
  split at h
  · exact (run88 0 ..).trans h
  · exact (run88_2 0 ..).trans h
  · simp at h
theorem ok37e (W0:World) (hW:Laid W0):EKOk Tryz.prog W0 37 (.eff (frameT S37e)) :=
  effD_of (tyOk 0 [(42,.pure S42p),(89,.fr (xE 30 x89))]) (look_ok (all_cons (ok42p W0 hW) (all_cons (okX W0 hW 30 (89,x89) (by unfold lsX x89; exact List.mem_cons_self)) all_nil))) mixed fn37 (lpsOk_no _ _) df37 (ok88w W0) fun args H r h => by
    have h2:(ofO _).val = some r:=h
    rw [ofO_val] at h2; exact h2
end Go.PS
end

section
namespace Go.PS
open Go.Proofs
set_option linter.all false
def errI (b:Bool):Int:=if b = true then 0 else 2
def S20e:List PV → Tr PV
  | [.d (.slc 2 l)] => .chk (l.all (okCn big) && decide (l.length ≤ big)) (.ok (.d (.int .i64 (errI (rightC l)))))
  | _ => .no
theorem ok20e (W0:World) (hW:Laid W0):EKOk Tryz.prog W0 20 (.pure S20e):=pure_eq (ok20 W0 hW) fun args => rfl
theorem ok21e (W0:World) (hW:Laid W0):EKOk Tryz.prog W0 21 (.pure S20e):=pure_eq (ok21r W0 hW) fun args => rfl
def S15d (B n:Nat):List PV → Tr PV
  | [.d (.slc 2 l),.d (.agg [.int .i64 k,.int .i64 f,.int .i64 t,.str path,.str name,.str b,.int .i64 c,.bool a,.int .i64 ti,.int .i64 p1,.str b2,.int .i64 cm2,.bool a2,.int .i64 ti2,.int .i64 p2,.int .i64 p3,.slc 12 steps])] => .chk (l.all (okCn big) && decide (l.length ≤ big) && steps.all (okStep B n) && decide (steps.length ≤ big) && decide (B ≤ 999999) && lensQ big path name b b2)
      (.ok (.tup [.d (.slc 2 (queryG n (rightQ n k f t path name b c a ti b2 cm2 a2 ti2 steps) steps (colsOf k l)).1),.d (.int .i64 (queryG n (rightQ n k f t path name b c a ti b2 cm2 a2 ti2 steps) steps (colsOf k l)).2.1),.d (.int .i64 (queryG n (rightQ n k f t path name b c a ti b2 cm2 a2 ti2 steps) steps (colsOf k l)).2.2)]))
  | _ => .no
theorem ok15d (W0:World) (hW:Laid W0) (B n:Nat):EKOk Tryz.prog W0 15 (.pure (S15d B n)):=by
  refine pure_low (ok15 W0 hW B n) fun args v' h => ?_
  unfold S15d at h
  split at h
  · simp only [Tr.val_chk,chk_some,Tr.val_ok,Option.some.injEq] at h
    obtain ⟨hc,rfl⟩:=h
    unfold S15
    simp only [Tr.val_chk,Tr.val_ok]
    rw [chk_t hc]
    exact ⟨_,rfl,rfl⟩
  · simp [Tr.val_no] at h
def S16 (B n:Nat):List PV → Tr PV
  | [.d (.slc 2 l),.d (.agg [.int .i64 k,.int .i64 f,.int .i64 t,.str path,.str name,.str b,.int .i64 c,.bool a,.int .i64 ti,.int .i64 p1,.str b2,.int .i64 cm2,.bool a2,.int .i64 ti2,.int .i64 p2,.int .i64 p3,.slc 12 steps])] => .chk (l.all (okCn big) && decide (l.length ≤ big) && steps.all (okStep B n) && decide (steps.length ≤ big) && decide (B ≤ 999999) && lensQ big path name b b2)
      (.ok (.tup [.d (.slc 2 (queryR n (rightQ n k f t path name b c a ti b2 cm2 a2 ti2 steps) steps (colsOf k l)).1),.d (.int .i64 (queryR n (rightQ n k f t path name b c a ti b2 cm2 a2 ti2 steps) steps (colsOf k l)).2.1),.d (.int .i64 (queryR n (rightQ n k f t path name b c a ti b2 cm2 a2 ti2 steps) steps (colsOf k l)).2.2)]))
  | _ => .no
theorem queryR_zero {n:Nat} {rq:Bool} {steps l:List DV} (h:(queryR n rq steps l).2.2 = 0):(queryR n rq steps l).2.1 = 0:=by
  unfold queryR at h ⊢
  split at h
  · exact absurd h (show ¬ ((2:Int) = 0) by decide)
  · rename_i q
    rw [if_neg q]
    rw [foldQ_P] at h ⊢
    split at h
    · rename_i z; exact absurd h z
    · rename_i z
      rw [if_neg z,foldQP_zero n steps l h]
theorem queryR_nil {n:Nat} {rq:Bool} {steps l:List DV} (h:(queryR n rq steps l).2.2 ≠ 0):(queryR n rq steps l).1 = []:=by
  unfold queryR at h ⊢
  split at h
  · rename_i q; rw [if_pos q]
  · rename_i q
    rw [if_neg q]
    rw [foldQ_P] at h ⊢
    split at h
    · rename_i z; rw [if_pos z]
    · rename_i z; exact absurd (by omega) h
theorem ok16 (W0:World) (hW:Laid W0) (B n:Nat):EKOk Tryz.prog W0 16 (.pure (S16 B n)):=by
  refine pure_low (ok16x W0 hW B n) fun args v' h => ?_
  unfold S16 at h
  split at h
  · rename_i l k f t path name b c a ti p1 b2 cm2 a2 ti2 p2 p3 steps
    simp only [Tr.val_chk,chk_some,Tr.val_ok,Option.some.injEq] at h
    obtain ⟨hc,rfl⟩:=h
    unfold S16x
    simp only [Tr.val_chk,Tr.val_cnd,Tr.val_ok]
    rw [chk_t hc]
    have fz:=queryR_zero (n:=n) (rq:=rightQ n k f t path name b c a ti b2 cm2 a2 ti2 steps) (steps:=steps) (l:=colsOf k l)
    have fn:=queryR_nil (n:=n) (rq:=rightQ n k f t path name b c a ti b2 cm2 a2 ti2 steps) (steps:=steps) (l:=colsOf k l)
    generalize (queryR n (rightQ n k f t path name b c a ti b2 cm2 a2 ti2 steps) steps (colsOf k l)) = X at *
    by_cases q:X.2.2 = 0
    · rw [show decide (X.2.2 = 0) = true by simpa using q]
      exact ⟨_,rfl,by rw [q,fz q]; rfl⟩
    · rw [show decide (X.2.2 = 0) = false by simpa using q]
      exact ⟨_,rfl,by rw [fn q]; rfl⟩
  · simp [Tr.val_no] at h
def S24d (B n:Nat):List PV → Tr PV
  | [.d (.slc 2 l),.d v] => .chk (l.all (okCn big) && decide (l.length ≤ big) && okStep B n v && decide (B ≤ 999999))
      (.ok (.tup [.d (.slc 2 (stepTy n l v).1),.d (.int .i64 (stepTy n l v).2.1),.d (.int .i64 (stepTy n l v).2.2)]))
  | _ => .no
theorem ok24d (W0:World) (hW:Laid W0) (B n:Nat):EKOk Tryz.prog W0 24 (.pure (S24d B n)):=by
  refine pure_low (ok24 W0 hW B n) fun args v' h => ?_
  unfold S24d at h
  split at h
  · simp only [Tr.val_chk,chk_some,Tr.val_ok,Option.some.injEq] at h
    obtain ⟨hc,rfl⟩:=h
    unfold S24
    simp only [Tr.val_chk,Tr.val_ok]
    rw [chk_t hc]
    exact ⟨_,rfl,rfl⟩
  · simp [Tr.val_no] at h
def nil2 (S:List PV → Tr PV):List PV → Tr PV
  | .d (.slc 0 []) :: r => S (.d (.slc 2 []) :: r)
  | a => S a
theorem enc_nil2 {o:Own} {w:World} {sig:List Nat} {x:Value} (h:PEnc o w sig (.d (.slc 0 [])) x):PEnc o w sig (.d (.slc 2 [])) x:=by
  cases h with
  | d h =>
    refine .d ?_
    cases h with
    | slcNil => exact .slcNil _
    | slcZ _ a => exact .slcZ _ a
    | slc _ vs b off cap xs hl hm hx hc =>
      cases hx
      exact .slc 2 [] b off cap [] hl hm .nil (fun i x h => by simp at h)
theorem pure_nil2 {P:Program} {W0:World} {f:Nat} {S:List PV → Tr PV} (h:EKOk P W0 f (.pure S)):EKOk P W0 f (.pure (nil2 S)):=by
  refine ⟨h.enters,fun args v hv o sig w xs g1 g2 g3 => ?_⟩
  unfold nil2 at hv
  split at hv
  · cases g3 with
    | cons g4 g5 => exact h.calls _ v hv o sig w _ g1 g2 (.cons (enc_nil2 g4) g5)
  · exact h.calls _ v hv o sig w _ g1 g2 g3
def ex1:Str:=[114,111,119,115,32,111,110,32,109,97,105,110,32,124,32,119,104,101,114,101,32,112,97,116,104,32,61,32,51]
def ex2:Str:=[118,97,108,105,100,32,51,32,111,110,32,109,97,105,110,32,124,32,115,117,109,32,118,97,108,117,101,32,98,121,32,112,97,116,104]
def S57:List PV → List PObj → Tr (Out × List PObj)
  | [.d (.str s)],[] => .cnd (decide (s = ex1)) (.ok (.ret (.tup [.own 2 [],.d (.int .i64 21),.d (.int .i64 12)]),[]))
      (.cnd (decide (s = ex2)) (.ok (.ret (.tup [.own 2 [mkCn [112,97,116,104] 2,mkCn [116,111,116,97,108] 1],.d (.int .i64 0),.d (.int .i64 0)]),[])) .no)
  | _,_ => .no
set_option maxRecDepth 100000
theorem fn57:FnOk Tryz.prog 57 22 [.tmp 2,.tmp 3,.tmp 4] (body Tryz.f57):=⟨Tryz.f57,Tryz.func57,bodySome _ (by kernel_rfl),by kernel_rfl,by kernel_rfl,by kernel_rfl,by kernel_rfl⟩
theorem run57a:runE (ctx FU [(37,.eff (frameT S37e)),(15,.pure (nil2 (S15 999999 100)))]) noL 22 [.tmp 2,.tmp 3,.tmp 4] (body Tryz.f57) [.d (.str ex1)] []
 = some (.ret (.tup [.own 2 [],.d (.int .i64 21),.d (.int .i64 12)]),[]):=by kernel_rfl
theorem run57b:runE (ctx FU [(37,.eff (frameT S37e)),(15,.pure (nil2 (S15 999999 100)))]) noL 22 [.tmp 2,.tmp 3,.tmp 4] (body Tryz.f57) [.d (.str ex2)] []
 = some (.ret (.tup [.own 2 [mkCn [112,97,116,104] 2,mkCn [116,111,116,97,108] 1],.d (.int .i64 0),.d (.int .i64 0)]),[]):=by kernel_rfl
theorem ok57 (W0:World) (hW:Laid W0):EKOk Tryz.prog W0 57 (.eff (frameT S57)):=by
  refine eff_of (tyOk FU [(37,.eff (frameT S37e)),(15,.pure (nil2 (S15 999999 100)))]) (look_ok (all_cons (ok37e W0 hW) (all_cons (pure_nil2 (ok15 W0 hW 999999 100)) all_nil))) mixed fn57 (lpsOk_no _ _) fun args H r h => ?_
  unfold S57 at h
  split at h
  · rename_i s
    simp only [Tr.val_cnd,Tr.val_ok,cnd_i,decide_eq_true_eq,Tr.val_no] at h
    split at h
    · rename_i e; subst e; exact run57a.trans h
    · split at h
      · rename_i e; subst e; exact run57b.trans h
      · cases h
  · simp [Tr.val_no] at h
def S14:List PV → List PObj → Tr (Out × List PObj)
  | [],[] => .ok (.ret (.d (.bool true)),[])
  | _,_ => .no
end Go.PS
end

section
namespace Go.PS
open Go.Proofs
set_option maxRecDepth 100000
theorem fn14:FnOk Tryz.prog 14 48 [.tmp 0] (body Tryz.f14):=⟨Tryz.f14,Tryz.func14,bodySome _ (by kernel_rfl),by kernel_rfl,by kernel_rfl,by kernel_rfl,by kernel_rfl⟩
theorem run14 (F:Nat):runE (ctx F [(57,.eff (frameT S57)),(17,.pure S17),(22,.pure S22)]) noL 48 [.tmp 0] (body Tryz.f14) [] [] = Tr.val (.ok ((Out.ret
 (PV.d (.bool true)),[]))):=by kernel_rfl
end Go.PS
end

section
namespace Go.PS
open Go.Proofs
set_option linter.all false
theorem ok14 (W0:World) (hW:Laid W0):EKOk Tryz.prog W0 14 (.eff (frameT S14)):=by
  refine eff_of (tyOk FU [(57,.eff (frameT S57)),(17,.pure S17),(22,.pure S22)]) (look_ok (all_cons (ok57 W0 hW) (all_cons (ok17 W0) (all_cons (ok22 W0) all_nil)))) mixed fn14 (lpsOk_no _ _) fun args H r h => ?_
  unfold S14 at h
  split at h
  ·
    refine (run14 FU ).trans (Eq.trans ?_ h)
    rfl
  · simp [Tr.val_no] at h
end Go.PS
end

section
namespace Go.PS
open Go.Proofs
set_option linter.all false
theorem fold_cn {B n:Nat} (hB:B ≤ 999999):∀ {steps l:List DV},steps.all (okStep B n) = true → l.all (okCn big) = true → l.length ≤ big → (foldG n steps l).1.all (okCn big) = true ∧ (foldG n steps l).1.length ≤ big:=by
  intro steps
  induction steps with
  | nil => intro l _ a b; exact ⟨a,b⟩
  | cons s r ih =>
    intro l hs a b
    simp only [List.all_cons,Bool.and_eq_true] at hs
    unfold foldG
    split
    · exact ⟨rfl,by simp⟩
    · have:=step_cn a b hs.1 hB
      exact ih hs.2 this.1 this.2
theorem queryG_cn {B n:Nat} {rq:Bool} {steps l:List DV} (hB:B ≤ 999999) (hs:steps.all (okStep B n) = true) (a:l.all (okCn big) = true) (b:l.length ≤ big):(queryG n rq steps l).1.all (okCn big) = true ∧ (queryG n rq steps l).1.length ≤ big:=by
  unfold queryG
  split
  · exact ⟨rfl,by simp⟩
  · exact fold_cn hB hs a b
theorem colsOf_cn {k:Int} {l:List DV} (a:l.all (okCn big) = true) (b:l.length ≤ big):(colsOf k l).all (okCn big) = true ∧ (colsOf k l).length ≤ big:=by
  unfold colsOf
  split
  · exact ⟨a,b⟩
  · have:=src_cn k
    exact ⟨this.1,by unfold big; omega⟩
theorem stepTy_cn8 {B n:Nat} {l:List DV} {s:DV} (hl:l.all (okCn big) = true) (hb:l.length ≤ big) (hs:okStep B n s = true) (hB:B ≤ 999999):(stepTy n l s).1.all (okCn big) = true ∧ (stepTy n l s).1.length ≤ big:=by
  rw [← stepR_eq hs]; exact stepR_cn hl hb hs hB
def S3 (kk:Nat):List PV → List PObj → Tr (Out × List PObj)
  | [.d (.slc 2 l),.d (.agg [.int .i64 k,.int .i64 f,.int .i64 t,.str path,.str name,.str b,.int .i64 c,.bool a,.int .i64 ti,.int .i64 p1,.str b2,.int .i64 cm2,.bool a2,.int .i64 ti2,.int .i64 p2,.int .i64 p3,.slc 12 steps]),.d (.str s)],[] => .chk (l.all (okCn ML) && steps.all (okStep ML kk) && decide (path.length ≤ 200000000000000) && decide (name.length ≤ 200000000000000) && decide (b.length ≤ 200000000000000) && decide (b2.length ≤ 200000000000000)) (.ok (.ret (.d (.bool true)),[]))
  | _,_ => .no
end Go.PS
end

section
namespace Go.PS
open Go.Proofs
set_option linter.all false
def T3_0 (kk:Nat) (st:St):Tr (Ex × St) :=
  bif shape 130 [0,4,13] st.slots then
    match gt .undef st.slots 0,gt .undef st.slots 4,gt .undef st.slots 13,st.heap with
    | .d (.slc 2 l),.ptr 0 0,.d (.int .i64 i),[.cells [.d (.int .i64 k),.d (.int .i64 f),.d (.int .i64 t),.d (.str path),.d (.str name),.d (.str b),.d (.int .i64 c),.d (.bool a),.d (.int .i64 ti),.d (.int .i64 p1),.d (.str b2),.d (.int .i64 cm2),.d (.bool a2),.d (.int .i64 ti2),.d (.int .i64 p2),.d (.int .i64 p3),.d (.slc 12 steps)]] =>
      .chk (decide (steps.length ≤ big) && decide (steps.all (okStep 20000 kk) = true) && decide (l.all (okCn big) = true) && decide (l.length ≤ big) && decide (0 ≤ i) && decide (i ≤ steps.length)) (.ok (.exit 0,⟨slots 130 [],[.cells [.d (.int .i64 k),.d (.int .i64 f),.d (.int .i64 t),.d (.str path),.d (.str name),.d (.str b),.d (.int .i64 c),.d (.bool a),.d (.int .i64 ti),.d (.int .i64 p1),.d (.str b2),.d (.int .i64 cm2),.d (.bool a2),.d (.int .i64 ti2),.d (.int .i64 p2),.d (.int .i64 p3),.d (.slc 12 steps)]]⟩))
    | _,_,_,_ => .no
  else .no
def L3 (kk:Nat):Lps:=fun i => bif Nat.beq i 8 then some (allBut 130 [0,4,13],allBut 130 [6],T3_0 kk) else none
end Go.PS
end

section
namespace Go.PS
open Go.Proofs
set_option maxRecDepth 100000
theorem round3_0 (F:Nat) {R:Type} (kk:Nat) (l:List DV) (i:Int) (k f t:Int) (path name b:Str) (c:Int) (a:Bool) (ti p1:Int) (b2:Str) (cm2 :
 Int) (a2:Bool) (ti2 p2 p3:Int) (steps:List DV) (K:Ex → St → Option R) (G:St → Option R):roundK (pcodeK (ctx F [(13,.pure (S13 kk)),(14,.eff
 (frameT S14)),(15,.pure (S15d 20000 kk)),(16,.pure (S16 20000 kk)),(17,.pure S17),(18,.pure S18),(19,.pure S18),(20,.pure S20e),(21,.pure S20e),
 (22,.pure S22),(23,.pure S22),(24,.pure (S24d 20000 kk)),(25,.pure (S25 20000 kk))]) noL (lp Tryz.f3 0)) 1 (allBut 130 [0,4,13] ++ temps (lp Tryz.f3 0))
 (allBut 130 [6]) ⟨slots 130 [(0,.d (.slc 2 l)),(4,.ptr 0 0),(13,.d (.int .i64 i))],[.cells [.d (.int .i64 k),.d (.int .i64 f),.d (.int .i64 t),.d (.str
 path),.d (.str name),.d (.str b),.d (.int .i64 c),.d (.bool a),.d (.int .i64 ti),.d (.int .i64 p1),.d (.str b2),.d (.int .i64 cm2),.d (.bool a2),.d
 (.int .i64 ti2),.d (.int .i64 p2),.d (.int .i64 p3),.d (.slc 12 steps)]]⟩ K G = Tr.run (.cnd (decide (i < (↑steps.length:Int))) (.chk (decide (0 ≤ i)) (.chk
 (decide (i.toNat < steps.length)) (.chk (fits [.int .i64 0,.int .i64 0,.str [],.int .i64 0,.int .i64 0,.str [],.nils 7,.int .i64 0,.nils 3,.nils 3,.int
 .i64 0,.int .i64 0] (gt DV.nili steps i.toNat).cells) (.chk (l.all (okCn big) && decide (l.length ≤ big) && okStep 20000 kk (DV.agg [view steps i.toNat 0 (.int
 .i64 0),view steps i.toNat (0 + 1) (.int .i64 0),view steps i.toNat (0 + 1 + 1) (.str []),view steps i.toNat (0 + 1 + 1 + 1) (.int .i64 0),view steps i.toNat
 (0 + 1 + 1 + 1 + 1) (.int .i64 0),view steps i.toNat (0 + 1 + 1 + 1 + 1 + 1) (.str []),view steps i.toNat (0 + 1 + 1 + 1 + 1 + 1 + 1) (.nils 7),view steps
 i.toNat (0 + 1 + 1 + 1 + 1 + 1 + 1 + 1) (.int .i64 0),view steps i.toNat (0 + 1 + 1 + 1 + 1 + 1 + 1 + 1 + 1) (.nils 3),view steps i.toNat (0 + 1 + 1 + 1 + 1 +
 1 + 1 + 1 + 1 + 1) (.nils 3),view steps i.toNat (0 + 1 + 1 + 1 + 1 + 1 + 1 + 1 + 1 + 1 + 1) (.int .i64 0),view steps i.toNat (0 + 1 + 1 + 1 + 1 + 1 + 1 + 1 + 1
 + 1 + 1 + 1) (.int .i64 0)]) && decide (20000 ≤ 999999)) (.chk (decide (0 ≤ i)) (.chk (decide (i.toNat < steps.length)) (.chk (fits [.int .i64 0,.int .i64 0,
 .str [],.int .i64 0,.int .i64 0,.str [],.nils 7,.int .i64 0,.nils 3,.nils 3,.int .i64 0,.int .i64 0] (gt DV.nili steps i.toNat).cells) (.chk (l.all
 (okCn big) && decide (l.length ≤ big) && okStep 20000 kk (DV.agg [view steps i.toNat 0 (.int .i64 0),view steps i.toNat (0 + 1) (.int .i64 0),view steps
 i.toNat (0 + 1 + 1) (.str []),view steps i.toNat (0 + 1 + 1 + 1) (.int .i64 0),view steps i.toNat (0 + 1 + 1 + 1 + 1) (.int .i64 0),view steps i.toNat (0 + 1
 + 1 + 1 + 1 + 1) (.str []),view steps i.toNat (0 + 1 + 1 + 1 + 1 + 1 + 1) (.nils 7),view steps i.toNat (0 + 1 + 1 + 1 + 1 + 1 + 1 + 1) (.int .i64 0),view
 steps i.toNat (0 + 1 + 1 + 1 + 1 + 1 + 1 + 1 + 1) (.nils 3),view steps i.toNat (0 + 1 + 1 + 1 + 1 + 1 + 1 + 1 + 1 + 1) (.nils 3),view steps i.toNat (0 + 1 + 1
 + 1 + 1 + 1 + 1 + 1 + 1 + 1 + 1) (.int .i64 0),view steps i.toNat (0 + 1 + 1 + 1 + 1 + 1 + 1 + 1 + 1 + 1 + 1 + 1) (.int .i64 0)]) && decide (20000 ≤ 999999))
 (.chk ((stepTy kk l (DV.agg [view steps i.toNat 0 (.int .i64 0),view steps i.toNat (0 + 1) (.int .i64 0),view steps i.toNat (0 + 1 + 1) (.str []),view steps
 i.toNat (0 + 1 + 1 + 1) (.int .i64 0),view steps i.toNat (0 + 1 + 1 + 1 + 1) (.int .i64 0),view steps i.toNat (0 + 1 + 1 + 1 + 1 + 1) (.str []),view steps
 i.toNat (0 + 1 + 1 + 1 + 1 + 1 + 1) (.nils 7),view steps i.toNat (0 + 1 + 1 + 1 + 1 + 1 + 1 + 1) (.int .i64 0),view steps i.toNat (0 + 1 + 1 + 1 + 1 + 1 + 1 +
 1 + 1) (.nils 3),view steps i.toNat (0 + 1 + 1 + 1 + 1 + 1 + 1 + 1 + 1 + 1) (.nils 3),view steps i.toNat (0 + 1 + 1 + 1 + 1 + 1 + 1 + 1 + 1 + 1 + 1) (.int .i64
 0),view steps i.toNat (0 + 1 + 1 + 1 + 1 + 1 + 1 + 1 + 1 + 1 + 1 + 1) (.int .i64 0)])).fst.all (okCn ML) && (stepR kk l (DV.agg [view steps i.toNat 0 (.int .i64
 0),view steps i.toNat (0 + 1) (.int .i64 0),view steps i.toNat (0 + 1 + 1) (.str []),view steps i.toNat (0 + 1 + 1 + 1) (.int .i64 0),view steps i.toNat (0 +
 1 + 1 + 1 + 1) (.int .i64 0),view steps i.toNat (0 + 1 + 1 + 1 + 1 + 1) (.str []),view steps i.toNat (0 + 1 + 1 + 1 + 1 + 1 + 1) (.nils 7),view steps i.toNat
 (0 + 1 + 1 + 1 + 1 + 1 + 1 + 1) (.int .i64 0),view steps i.toNat (0 + 1 + 1 + 1 + 1 + 1 + 1 + 1 + 1) (.nils 3),view steps i.toNat (0 + 1 + 1 + 1 + 1 + 1 + 1 +
 1 + 1 + 1) (.nils 3),view steps i.toNat (0 + 1 + 1 + 1 + 1 + 1 + 1 + 1 + 1 + 1 + 1) (.int .i64 0),view steps i.toNat (0 + 1 + 1 + 1 + 1 + 1 + 1 + 1 + 1 + 1 + 1
 + 1) (.int .i64 0)])).fst.all (okCn ML) && decide ((stepTy kk l (DV.agg [view steps i.toNat 0 (.int .i64 0),view steps i.toNat (0 + 1) (.int .i64 0),view steps
 i.toNat (0 + 1 + 1) (.str []),view steps i.toNat (0 + 1 + 1 + 1) (.int .i64 0),view steps i.toNat (0 + 1 + 1 + 1 + 1) (.int .i64 0),view steps i.toNat (0 + 1
 + 1 + 1 + 1 + 1) (.str []),view steps i.toNat (0 + 1 + 1 + 1 + 1 + 1 + 1) (.nils 7),view steps i.toNat (0 + 1 + 1 + 1 + 1 + 1 + 1 + 1) (.int .i64 0),view
 steps i.toNat (0 + 1 + 1 + 1 + 1 + 1 + 1 + 1 + 1) (.nils 3),view steps i.toNat (0 + 1 + 1 + 1 + 1 + 1 + 1 + 1 + 1 + 1) (.nils 3),view steps i.toNat (0 + 1 + 1
 + 1 + 1 + 1 + 1 + 1 + 1 + 1 + 1) (.int .i64 0),view steps i.toNat (0 + 1 + 1 + 1 + 1 + 1 + 1 + 1 + 1 + 1 + 1 + 1) (.int .i64 0)])).fst.length ≤ big)) (.cnd
 (!sameC (stepTy kk l (DV.agg [view steps i.toNat 0 (.int .i64 0),view steps i.toNat (0 + 1) (.int .i64 0),view steps i.toNat (0 + 1 + 1) (.str []),view steps
 i.toNat (0 + 1 + 1 + 1) (.int .i64 0),view steps i.toNat (0 + 1 + 1 + 1 + 1) (.int .i64 0),view steps i.toNat (0 + 1 + 1 + 1 + 1 + 1) (.str []),view steps
 i.toNat (0 + 1 + 1 + 1 + 1 + 1 + 1) (.nils 7),view steps i.toNat (0 + 1 + 1 + 1 + 1 + 1 + 1 + 1) (.int .i64 0),view steps i.toNat (0 + 1 + 1 + 1 + 1 + 1 + 1 +
 1 + 1) (.nils 3),view steps i.toNat (0 + 1 + 1 + 1 + 1 + 1 + 1 + 1 + 1 + 1) (.nils 3),view steps i.toNat (0 + 1 + 1 + 1 + 1 + 1 + 1 + 1 + 1 + 1 + 1) (.int .i64
 0),view steps i.toNat (0 + 1 + 1 + 1 + 1 + 1 + 1 + 1 + 1 + 1 + 1 + 1) (.int .i64 0)])).fst (stepR kk l (DV.agg [view steps i.toNat 0 (.int .i64 0),view steps
 i.toNat (0 + 1) (.int .i64 0),view steps i.toNat (0 + 1 + 1) (.str []),view steps i.toNat (0 + 1 + 1 + 1) (.int .i64 0),view steps i.toNat (0 + 1 + 1 + 1 + 1)
 (.int .i64 0),view steps i.toNat (0 + 1 + 1 + 1 + 1 + 1) (.str []),view steps i.toNat (0 + 1 + 1 + 1 + 1 + 1 + 1) (.nils 7),view steps i.toNat (0 + 1 + 1 + 1
 + 1 + 1 + 1 + 1) (.int .i64 0),view steps i.toNat (0 + 1 + 1 + 1 + 1 + 1 + 1 + 1 + 1) (.nils 3),view steps i.toNat (0 + 1 + 1 + 1 + 1 + 1 + 1 + 1 + 1 + 1)
 (.nils 3),view steps i.toNat (0 + 1 + 1 + 1 + 1 + 1 + 1 + 1 + 1 + 1 + 1) (.int .i64 0),view steps i.toNat (0 + 1 + 1 + 1 + 1 + 1 + 1 + 1 + 1 + 1 + 1 + 1) (.int
 .i64 0)])).fst) (.ok (.inl (Ex.ret,⟨slots 130 [(6,.d (.bool false))],[PObj.cells [.d (.int .i64 k),.d (.int .i64 f),.d (.int .i64 t),.d (.str path),.d
 (.str name),.d (.str b),.d (.int .i64 c),.d (.bool a),.d (.int .i64 ti),.d (.int .i64 p1),.d (.str b2),.d (.int .i64 cm2),.d (.bool a2),.d (.int .i64
 ti2),.d (.int .i64 p2),.d (.int .i64 p3),.d (.slc 12 steps)]]⟩))) (.cnd (!decide ((stepTy kk l (DV.agg [view steps i.toNat 0 (.int .i64 0),view steps i.toNat
 (0 + 1) (.int .i64 0),view steps i.toNat (0 + 1 + 1) (.str []),view steps i.toNat (0 + 1 + 1 + 1) (.int .i64 0),view steps i.toNat (0 + 1 + 1 + 1 + 1) (.int
 .i64 0),view steps i.toNat (0 + 1 + 1 + 1 + 1 + 1) (.str []),view steps i.toNat (0 + 1 + 1 + 1 + 1 + 1 + 1) (.nils 7),view steps i.toNat (0 + 1 + 1 + 1 + 1 +
 1 + 1 + 1) (.int .i64 0),view steps i.toNat (0 + 1 + 1 + 1 + 1 + 1 + 1 + 1 + 1) (.nils 3),view steps i.toNat (0 + 1 + 1 + 1 + 1 + 1 + 1 + 1 + 1 + 1) (.nils 3),
 view steps i.toNat (0 + 1 + 1 + 1 + 1 + 1 + 1 + 1 + 1 + 1 + 1) (.int .i64 0),view steps i.toNat (0 + 1 + 1 + 1 + 1 + 1 + 1 + 1 + 1 + 1 + 1 + 1) (.int .i64
 0)])).snd.fst = (stepR kk l (DV.agg [view steps i.toNat 0 (.int .i64 0),view steps i.toNat (0 + 1) (.int .i64 0),view steps i.toNat (0 + 1 + 1) (.str []),view
 steps i.toNat (0 + 1 + 1 + 1) (.int .i64 0),view steps i.toNat (0 + 1 + 1 + 1 + 1) (.int .i64 0),view steps i.toNat (0 + 1 + 1 + 1 + 1 + 1) (.str []),view
 steps i.toNat (0 + 1 + 1 + 1 + 1 + 1 + 1) (.nils 7),view steps i.toNat (0 + 1 + 1 + 1 + 1 + 1 + 1 + 1) (.int .i64 0),view steps i.toNat (0 + 1 + 1 + 1 + 1 + 1
 + 1 + 1 + 1) (.nils 3),view steps i.toNat (0 + 1 + 1 + 1 + 1 + 1 + 1 + 1 + 1 + 1) (.nils 3),view steps i.toNat (0 + 1 + 1 + 1 + 1 + 1 + 1 + 1 + 1 + 1 + 1)
 (.int .i64 0),view steps i.toNat (0 + 1 + 1 + 1 + 1 + 1 + 1 + 1 + 1 + 1 + 1 + 1) (.int .i64 0)])).snd.fst)) (.ok (.inl (Ex.ret,⟨slots 130 [(6,.d (.bool
 false))],[PObj.cells [.d (.int .i64 k),.d (.int .i64 f),.d (.int .i64 t),.d (.str path),.d (.str name),.d (.str b),.d (.int .i64 c),.d (.bool a),.d
 (.int .i64 ti),.d (.int .i64 p1),.d (.str b2),.d (.int .i64 cm2),.d (.bool a2),.d (.int .i64 ti2),.d (.int .i64 p2),.d (.int .i64 p3),.d (.slc 12
 steps)]]⟩))) (.cnd (!decide ((stepTy kk l (DV.agg [view steps i.toNat 0 (.int .i64 0),view steps i.toNat (0 + 1) (.int .i64 0),view steps i.toNat (0 + 1 + 1)
 (.str []),view steps i.toNat (0 + 1 + 1 + 1) (.int .i64 0),view steps i.toNat (0 + 1 + 1 + 1 + 1) (.int .i64 0),view steps i.toNat (0 + 1 + 1 + 1 + 1 + 1)
 (.str []),view steps i.toNat (0 + 1 + 1 + 1 + 1 + 1 + 1) (.nils 7),view steps i.toNat (0 + 1 + 1 + 1 + 1 + 1 + 1 + 1) (.int .i64 0),view steps i.toNat (0 + 1
 + 1 + 1 + 1 + 1 + 1 + 1 + 1) (.nils 3),view steps i.toNat (0 + 1 + 1 + 1 + 1 + 1 + 1 + 1 + 1 + 1) (.nils 3),view steps i.toNat (0 + 1 + 1 + 1 + 1 + 1 + 1 + 1 +
 1 + 1 + 1) (.int .i64 0),view steps i.toNat (0 + 1 + 1 + 1 + 1 + 1 + 1 + 1 + 1 + 1 + 1 + 1) (.int .i64 0)])).snd.snd = (stepR kk l (DV.agg [view steps i.toNat 0
 (.int .i64 0),view steps i.toNat (0 + 1) (.int .i64 0),view steps i.toNat (0 + 1 + 1) (.str []),view steps i.toNat (0 + 1 + 1 + 1) (.int .i64 0),view steps
 i.toNat (0 + 1 + 1 + 1 + 1) (.int .i64 0),view steps i.toNat (0 + 1 + 1 + 1 + 1 + 1) (.str []),view steps i.toNat (0 + 1 + 1 + 1 + 1 + 1 + 1) (.nils 7),view
 steps i.toNat (0 + 1 + 1 + 1 + 1 + 1 + 1 + 1) (.int .i64 0),view steps i.toNat (0 + 1 + 1 + 1 + 1 + 1 + 1 + 1 + 1) (.nils 3),view steps i.toNat (0 + 1 + 1 + 1
 + 1 + 1 + 1 + 1 + 1 + 1) (.nils 3),view steps i.toNat (0 + 1 + 1 + 1 + 1 + 1 + 1 + 1 + 1 + 1 + 1) (.int .i64 0),view steps i.toNat (0 + 1 + 1 + 1 + 1 + 1 + 1 +
 1 + 1 + 1 + 1 + 1) (.int .i64 0)])).snd.snd)) (.ok (.inl (Ex.ret,⟨slots 130 [(6,.d (.bool false))],[PObj.cells [.d (.int .i64 k),.d (.int .i64 f),.d (.int
 .i64 t),.d (.str path),.d (.str name),.d (.str b),.d (.int .i64 c),.d (.bool a),.d (.int .i64 ti),.d (.int .i64 p1),.d (.str b2),.d (.int .i64 cm2),.d
 (.bool a2),.d (.int .i64 ti2),.d (.int .i64 p2),.d (.int .i64 p3),.d (.slc 12 steps)]]⟩))) (.ok (.inr ⟨slots 130 [(0,.d (.slc 2 l)),(4,PV.ptr 0 0),(13,
 .d (.int .i64 (IntKind.i64.wrap (i + 1))))],[PObj.cells [.d (.int .i64 k),.d (.int .i64 f),.d (.int .i64 t),.d (.str path),.d (.str name),.d (.str b),.d
 (.int .i64 c),.d (.bool a),.d (.int .i64 ti),.d (.int .i64 p1),.d (.str b2),.d (.int .i64 cm2),.d (.bool a2),.d (.int .i64 ti2),.d (.int .i64 p2),.d
 (.int .i64 p3),.d (.slc 12 steps)]]⟩)))))))))))))) (.ok (.inl (Ex.exit 0,⟨slots 130 [],[PObj.cells [.d (.int .i64 k),.d (.int .i64 f),.d (.int .i64 t),.d
 (.str path),.d (.str name),.d (.str b),.d (.int .i64 c),.d (.bool a),.d (.int .i64 ti),.d (.int .i64 p1),.d (.str b2),.d (.int .i64 cm2),.d (.bool a2),
 .d (.int .i64 ti2),.d (.int .i64 p2),.d (.int .i64 p3),.d (.slc 12 steps)]]⟩)))) (rnd K G):=by kernel_rfl
theorem fn3:FnOk Tryz.prog 3 130 [.tmp 6] (body Tryz.f3):=⟨Tryz.f3,Tryz.func3,bodySome _ (by kernel_rfl),by kernel_rfl,by kernel_rfl,by kernel_rfl,by kernel_rfl⟩
theorem run3 (F:Nat) (kk:Nat) (l:List DV) (k f t:Int) (path name b:Str) (c:Int) (a:Bool) (ti p1:Int) (b2:Str) (cm2:Int) (a2:Bool) (ti2 p2
 p3:Int) (steps:List DV) (s:Str):runE (ctx F [(13,.pure (S13 kk)),(14,.eff (frameT S14)),(15,.pure (S15d 20000 kk)),(16,.pure (S16 20000 kk)),(17,
 .pure S17),(18,.pure S18),(19,.pure S18),(20,.pure S20e),(21,.pure S20e),(22,.pure S22),(23,.pure S22),(24,.pure (S24d 20000 kk)),(25,.pure (S25
 20000 kk))]) (L3 kk) 130 [.tmp 6] (body Tryz.f3) [.d (.slc 2 l),.d (.agg [.int .i64 k,.int .i64 f,.int .i64 t,.str path,.str name,.str b,.int .i64 c,
 .bool a,.int .i64 ti,.int .i64 p1,.str b2,.int .i64 cm2,.bool a2,.int .i64 ti2,.int .i64 p2,.int .i64 p3,.slc 12 steps]),.d (.str s)] [] = Tr.val (.chk
 (steps.all (okStep ML kk) && l.all (okCn ML) && decide (List.length path ≤ 200000000000000) && decide (List.length name ≤ 200000000000000) && decide (List.length
 b ≤ 200000000000000) && decide (List.length b2 ≤ 200000000000000)) (.cnd (!fewV path name b b2 steps l) (.ok ((Out.ret (PV.d (.bool true)),[]))) (.cnd (decide
 ((↑(List.length s):Int) > 100)) (.ok ((Out.ret (PV.d (.bool true)),[]))) (.chk (l.all (okCn big) && decide (l.length ≤ big) && steps.all (okStep 20000 kk) &&
 decide (steps.length ≤ big) && decide (20000 ≤ 999999) && lensQ big path name b b2) (.chk (l.all (okCn big) && decide (l.length ≤ big) && steps.all (okStep 20000
 kk) && decide (steps.length ≤ big) && decide (20000 ≤ 999999) && lensQ big path name b b2) (.chk ((queryG kk (rightQ kk k f t path name b c a ti b2 cm2 a2 ti2
 steps) steps (colsOf k l)).fst.all (okCn ML) && (queryR kk (rightQ kk k f t path name b c a ti b2 cm2 a2 ti2 steps) steps (colsOf k l)).fst.all (okCn ML) &&
 decide ((queryG kk (rightQ kk k f t path name b c a ti b2 cm2 a2 ti2 steps) steps (colsOf k l)).fst.length ≤ big)) (.cnd (!sameC (queryG kk (rightQ kk k f t path
 name b c a ti b2 cm2 a2 ti2 steps) steps (colsOf k l)).fst (queryR kk (rightQ kk k f t path name b c a ti b2 cm2 a2 ti2 steps) steps (colsOf k l)).fst) (.ok
 ((Out.ret (PV.d (.bool false)),[]))) (.cnd (!decide ((queryG kk (rightQ kk k f t path name b c a ti b2 cm2 a2 ti2 steps) steps (colsOf k l)).snd.fst = (queryR
 kk (rightQ kk k f t path name b c a ti b2 cm2 a2 ti2 steps) steps (colsOf k l)).snd.fst)) (.ok ((Out.ret (PV.d (.bool false)),[]))) (.cnd (!decide ((queryG kk
 (rightQ kk k f t path name b c a ti b2 cm2 a2 ti2 steps) steps (colsOf k l)).snd.snd = (queryR kk (rightQ kk k f t path name b c a ti b2 cm2 a2 ti2 steps) steps
 (colsOf k l)).snd.snd)) (.ok ((Out.ret (PV.d (.bool false)),[]))) (.chk ((srcC k).all (okCn ML) && (srcC k).all (okCn ML) && decide ((srcC k).length ≤ big))
 (.cnd (!sameC (srcC k) (srcC k)) (.ok ((Out.ret (PV.d (.bool false)),[]))) (.chk (l.all (okCn big) && decide (l.length ≤ big)) (.chk (l.all (okCn big) && decide
 (l.length ≤ big)) (.cnd (!decide (errI (rightC l) = errI (rightC l))) (.ok ((Out.ret (PV.d (.bool false)),[]))) (.chk (l.all (okCn ML) && decide (l.length ≤
 big)) (.chk (l.all (okCn ML) && decide (l.length ≤ big)) (.cnd (!decide (findC l s ≥ 0) == decide (findC l s ≥ 0)) (.ok ((Out.ret (PV.d (.bool false)),[])))
 (.chk (decide (steps.length ≤ big) && decide (steps.all (okStep 20000 kk) = true) && decide (l.all (okCn big) = true) && decide (l.length ≤ big) && decide (0 ≤
 0) && decide (0 ≤ (↑steps.length:Int))) (.ok ((Out.ret (PV.d (.bool true)),[]))))))))))))))))))))):=by kernel_rfl
end Go.PS
end

section
namespace Go.PS
open Go.Proofs
set_option linter.all false
theorem loop3_0 (F:Nat) {R:Type} (kk:Nat) (l:List DV) (k:Int) (f:Int) (t:Int) (path:Str) (name:Str) (b:Str) (c:Int) (a:Bool) (ti:Int) (p1:Int) (b2:Str) (cm2:Int) (a2:Bool) (ti2:Int) (p2:Int) (p3:Int) (steps:List DV) (K:Ex → St → Option R) (g0:steps.length ≤ big) (g1:steps.all (okStep 20000 kk) = true) (g2:l.all (okCn big) = true) (g3:l.length ≤ big) :
    ∀ (m:Nat) (i:Int),0 ≤ i → i ≤ steps.length → (steps.length - i).toNat < m →
      loopK (pcodeK (ctx F [(13,.pure (S13 kk)),(14,.eff (frameT S14)),(15,.pure (S15d 20000 kk)),(16,.pure (S16 20000 kk)),(17,.pure S17),(18,.pure S18),(19,.pure S18),(20,.pure S20e),(21,.pure S20e),(22,.pure S22),(23,.pure S22),(24,.pure (S24d 20000 kk)),(25,.pure (S25 20000 kk))]) noL (lp Tryz.f3 0)) 1 (allBut 130 [0,4,13] ++ temps (lp Tryz.f3 0)) (allBut 130 [6]) m
        ⟨slots 130 [(0,.d (.slc 2 l)),(4,.ptr 0 0),(13,.d (.int .i64 i))],[.cells [.d (.int .i64 k),.d (.int .i64 f),.d (.int .i64 t),.d (.str path),.d (.str name),.d (.str b),.d (.int .i64 c),.d (.bool a),.d (.int .i64 ti),.d (.int .i64 p1),.d (.str b2),.d (.int .i64 cm2),.d (.bool a2),.d (.int .i64 ti2),.d (.int .i64 p2),.d (.int .i64 p3),.d (.slc 12 steps)]]⟩ K =
      Tr.run (.ok (.exit 0,⟨slots 130 [],[.cells [.d (.int .i64 k),.d (.int .i64 f),.d (.int .i64 t),.d (.str path),.d (.str name),.d (.str b),.d (.int .i64 c),.d (.bool a),.d (.int .i64 ti),.d (.int .i64 p1),.d (.str b2),.d (.int .i64 cm2),.d (.bool a2),.d (.int .i64 ti2),.d (.int .i64 p2),.d (.int .i64 p3),.d (.slc 12 steps)]]⟩)) (fun p => K p.1 p.2):=by
  intro m
  induction m with
  | zero => intro i; intros; omega
  | succ m ih =>
    intro i h0 h1 hm
    rw [loopK_succ,round3_0]
    have g0':=g0
    unfold big at g0
    simp only [Tr.run,rnd,cnd_i,chk_i,Bool.and_eq_true,decide_eq_true_eq]
    by_cases hi:i < steps.length
    · have w:IntKind.i64.wrap (i + 1) = i + 1:=wrap64 (by omega) (by omega)
      have hx:=all_gt g1 (i:=i) (by omega) (by omega)
      have ht:=okStep_fits hx
      rw [okStep_view hx]
      have hcn:=stepTy_cn8 g2 g3 hx (by omega)
      have e:=stepR_eq (l:=l) hx
      have hM:=okCn_le hcn.1 (B:=ML) (by unfold big ML; omega)
      have ih1:=ih (i + 1) (by omega) (by omega) (by omega)
      simp only [Tr.run] at ih1
      have hj:i.toNat < steps.length:=by omega
      have e20:20000 ≤ 999999:=by omega
      clear ih
      simp only [hi,h0,hj,ht,hx,g2,g3,e,hM,hcn.2,sameC_refl,w,e20,and_self,if_true,not_true_eq_false,if_false,Bool.not_true,Bool.false_eq_true,decide_true]
      exact ih1
    · simp [hi]
theorem lps3 (F:Nat) (hF:F = FU) (kk:Nat):LpsOk (ctx F [(13,.pure (S13 kk)),(14,.eff (frameT S14)),(15,.pure (S15d 20000 kk)),(16,.pure (S16 20000 kk)),(17,.pure S17),(18,.pure S18),(19,.pure S18),(20,.pure S20e),(21,.pure S20e),(22,.pure S22),(23,.pure S22),(24,.pure (S24d 20000 kk)),(25,.pure (S25 20000 kk))]) (L3 kk) (loopsOf (body Tryz.f3)):=by
  subst hF
  refine lps_one (c:=lp Tryz.f3 0) rfl (by kernel_rfl) fun R st K r h => ?_
  unfold T3_0 at h
  cases hs:shape 130 [0,4,13] st.slots with
  | false => rw [hs] at h; simp [Tr.run] at h
  | true =>
  rw [hs] at h
  simp only [cond_true] at h
  have he:=shape_eq hs
  obtain ⟨sl0,H⟩:=st
  dsimp only at h he ⊢
  split at h
  · rename_i l i k f t path name b c a ti p1 b2 cm2 a2 ti2 p2 p3 steps g0_ g1_ g2_
    simp only [List.map_cons,List.map_nil,g0_,g1_,g2_] at he
    subst he
    simp only [Tr.run] at h
    cases hc:(decide (steps.length ≤ big) && decide (steps.all (okStep 20000 kk) = true) && decide (l.all (okCn big) = true) && decide (l.length ≤ big) && decide (0 ≤ i) && decide (i ≤ steps.length)) with
    | false => rw [hc] at h; simp at h
    | true =>
    rw [hc] at h
    simp only [Bool.and_eq_true,decide_eq_true_eq] at hc
    obtain ⟨⟨⟨⟨⟨c0,c1⟩,c2⟩,c3⟩,c4⟩,c5⟩:=hc
    refine (loop3_0 FU kk l k f t path name b c a ti p1 b2 cm2 a2 ti2 p2 p3 steps K c0 c1 c2 c3 FU i c4 c5 (by unfold FU; (try unfold big at *); omega)).trans ?_
    rw [← h]
    rfl
  · simp [Tr.run] at h
theorem ok3 (W0:World) (hW:Laid W0) (kk:Nat):EKOk Tryz.prog W0 3 (.eff (frameT (S3 kk))):=by
  refine eff_of (tyOk FU [(13,.pure (S13 kk)),(14,.eff (frameT S14)),(15,.pure (S15d 20000 kk)),(16,.pure (S16 20000 kk)),(17,.pure S17),(18,.pure S18),(19,.pure S18),(20,.pure S20e),(21,.pure S20e),(22,.pure S22),(23,.pure S22),(24,.pure (S24d 20000 kk)),(25,.pure (S25 20000 kk))]) (look_ok (all_cons (ok13 W0 kk) (all_cons (ok14 W0 hW) (all_cons (ok15d W0 hW 20000 kk) (all_cons (ok16 W0 hW 20000 kk) (all_cons (ok17 W0) (all_cons (ok18 W0) (all_cons (ok19 W0) (all_cons (ok20e W0 hW) (all_cons (ok21e W0 hW) (all_cons (ok22 W0) (all_cons (ok23 W0) (all_cons (ok24d W0 hW 20000 kk) (all_cons (ok25 W0 hW 20000 kk) all_nil)))))))))))))) mixed fn3 (lps3 FU rfl kk) fun args H r h => ?_
  unfold S3 at h
  split at h
  · rename_i l k f t path name b c a ti p1 b2 cm2 a2 ti2 p2 p3 steps s
    refine (run3 FU kk l k f t path name b c a ti p1 b2 cm2 a2 ti2 p2 p3 steps s).trans (Eq.trans ?_ h)
    simp only [Tr.val_chk,chk_some,Bool.and_eq_true,decide_eq_true_eq] at h
    obtain ⟨⟨⟨⟨⟨c0,c1⟩,c2⟩,c3⟩,c4⟩,c5⟩:=h.1
    clear h
    simp only [Tr.val_ok,Tr.val_cnd,Tr.val_chk,cnd_i,chk_i,Bool.and_eq_true,decide_eq_true_eq,c0,c1,c2,c3,c4,c5,and_self,if_true,Bool.not_eq_true',decide_eq_false_iff_not]
    by_cases q:fewV path name b b2 steps l = true
    · obtain ⟨f1,f2,f3,f4,f5,f6,f7,f8⟩:=fewV_ok c1 c0 q
      have g1:l.all (okCn big) = true:=okCn_le f2 (by unfold big; omega)
      have g1M:l.all (okCn ML) = true:=c0
      have g2:l.length ≤ big:=by unfold big; omega
      have g3:steps.length ≤ big:=by unfold big; omega
      have g4:lensQ big path name b b2 = true:=by
        simp only [lensQ,lenB,Bool.and_eq_true,decide_eq_true_eq]; unfold big; omega
      have e20:20000 ≤ 999999:=by omega
      have hL:=colsOf_cn (k:=k) g1 g2
      have hA:=queryG_cn (rq:=rightQ kk k f t path name b c a ti b2 cm2 a2 ti2 steps) e20 f1 hL.1 hL.2
      have hAM:=okCn_le hA.1 (B:=ML) (by unfold big ML; omega)
      have hR:queryR kk (rightQ kk k f t path name b c a ti b2 cm2 a2 ti2 steps) steps (colsOf k l) = queryG kk (rightQ kk k f t path name b c a ti b2 cm2 a2 ti2 steps) steps (colsOf k l):=query_eq f1 fun z => by
        unfold rightQ at z
        simp only [Bool.and_eq_true] at z
        exact z.2
      have hS:=src_cn k
      have hSM:=okCn_le hS.1 (B:=ML) (by unfold big ML; omega)
      have hS2:(srcC k).length ≤ big:=by unfold big; omega
      simp only [q,g1,g1M,g2,g3,g4,f1,e20,hR,hAM,hA.2,hSM,hS2,sameC_refl,and_self,if_true,if_false,Bool.true_eq_false,not_true_eq_false,Int.le_refl,Int.natCast_nonneg,beq_self_eq_true,Bool.not_true,Bool.false_eq_true]
      split <;> rfl
    · have q2:fewV path name b b2 steps l = false:=by simpa using q
      simp [q2]
  · simp [Tr.val_no] at h
end Go.PS
end
