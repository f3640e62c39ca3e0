/- A part of the proof of the claim (the pure semantics PS and the contracts of the functions over it). -/
import Derived.Test.YtcjcppnclfbjpaaGreatDoorU0
import Derived.Test.YtcjcppnclfbjpaaGreatDoorU1
import Derived.Test.YtcjcppnclfbjpaaGreatDoorU2
import Derived.Test.YtcjcppnclfbjpaaGreatDoorU3
set_option linter.all false
section
namespace Go.PS
open Go.Proofs
set_option linter.unusedSimpArgs false
theorem smallB_fold (c:Int):(decide (97 ≤ c) && decide (c ≤ 122)) = smallB c:=rfl
theorem loop209 (F:Nat) {R:Type} (s:List UInt8) (l:Int) (K:Ex → St → Option R) (hs:s.length ≤ 1000000) (hl:l = s.length) :
    ∀ (m:Nat) (i:Int),0 ≤ i → i ≤ s.length → (s.length - i).toNat < m →
      loopK (pcodeK (ctx F [(228,.pure S228)]) noL (lp Tryz.f209 0)) 0 (allBut 31 [0,7,8] ++ temps (lp Tryz.f209 0)) (allBut 31 [0,2]) m
        ⟨slots 31 [(0,.d (.str s)),(7,.d (.int .i64 l)),(8,.d (.int .i64 i))],[]⟩ K =
      PS.cnd (wordTo s m i) (K (.exit 0) ⟨slots 31 [(0,.d (.str s))],[]⟩) (K .ret ⟨slots 31 [(0,.d (.str s)),(2,.d (.bool false))],[]⟩):=by
  intro m
  induction m with
  | zero => intro i _ _ hm; omega
  | succ m ih =>
    intro i h0 h1 hm
    rw [loopK_succ,round209_0]
    have w:i < s.length → IntKind.i64.wrap (i + 1) = i + 1:=fun _ => wrap64 (by omega) (by omega)
    have ih1:=ih (i + 1)
    clear ih
    simp only [cnd_if] at ih1
    simp only [Tr.run,rnd,chr_fold,smallB_fold,wordTo,cnd_if,chk_if,Bool.and_eq_true,decide_eq_true_eq]
    grind
theorem lps209 (F:Nat) (hF:F = FU):LpsOk (ctx F [(228,.pure S228)]) L209 (loopsOf (body Tryz.f209)):=by
  refine lps_one (c:=lp Tryz.f209 0) rfl (by kernel_rfl) fun R st K r h => ?_
  unfold T209 at h
  cases hs:shape 31 [0,7,8] st.slots with
  | false => rw [hs] at h; simp [Tr.run] at h
  | true =>
  rw [hs] at h
  simp only [cond_true] at h
  have he:=shape_eq hs
  obtain ⟨sl0,H⟩:=st
  dsimp only at h he ⊢
  split at h
  · rename_i s l i g0 g1 g2
    simp only [List.map_cons,List.map_nil,g0,g1,g2] at he
    subst he
    simp only [Tr.run] at h
    cases hc:(decide (0 ≤ i) && decide (i ≤ s.length) && decide (s.length ≤ big) && decide (l = s.length)) with
    | false => rw [hc] at h; simp at h
    | true =>
    rw [hc] at h
    simp only [Bool.and_eq_true,decide_eq_true_eq] at hc
    obtain ⟨⟨⟨h0,h1⟩,h2⟩,h3⟩:=hc
    unfold big at h2
    refine (loop209 F s l K h2 h3 F i h0 h1 (by rw [hF]; unfold FU; omega)).trans ?_
    rw [← h,hF]
    rfl
  · simp [Tr.run] at h
theorem loop153 (F:Nat) {R:Type} (s:List UInt8) (K:Ex → St → Option R) (hs:s.length ≤ 1000000) :
    ∀ (m:Nat) (i:Int),0 ≤ i → i ≤ s.length → (s.length - i).toNat < m →
      loopK (pcodeK (ctx F [(212,.pure S212),(213,.pure S213)]) noL (lp Tryz.f153 0)) 0 (allBut 28 [0,3] ++ temps (lp Tryz.f153 0)) (allBut 28 [0,2]) m
        ⟨slots 28 [(0,.d (.str s)),(3,.d (.int .i64 i))],[]⟩ K =
      PS.cnd (wordTo s m i) (K (.exit 0) ⟨slots 28 [(0,.d (.str s))],[]⟩) (K .ret ⟨slots 28 [(0,.d (.str s)),(2,.d (.bool false))],[]⟩):=by
  intro m
  induction m with
  | zero => intro i _ _ hm; omega
  | succ m ih =>
    intro i h0 h1 hm
    rw [loopK_succ,round153_0]
    have w:i < s.length → IntKind.i64.wrap (i + 1) = i + 1:=fun _ => wrap64 (by omega) (by omega)
    have ih1:=ih (i + 1)
    clear ih
    simp only [cnd_if] at ih1
    simp only [Tr.run,rnd,chr_fold,wordTo,cnd_if,chk_if,Bool.and_eq_true,decide_eq_true_eq]
    grind
theorem lps153 (F:Nat) (hF:F = FU):LpsOk (ctx F [(212,.pure S212),(213,.pure S213)]) L153 (loopsOf (body Tryz.f153)):=by
  refine lps_one (c:=lp Tryz.f153 0) rfl (by kernel_rfl) fun R st K r h => ?_
  unfold T153 at h
  cases hs:shape 28 [0,3] st.slots with
  | false => rw [hs] at h; simp [Tr.run] at h
  | true =>
  rw [hs] at h
  simp only [cond_true] at h
  have he:=shape_eq hs
  obtain ⟨sl0,H⟩:=st
  dsimp only at h he ⊢
  split at h
  · rename_i s i g0 g1
    simp only [List.map_cons,List.map_nil,g0,g1] at he
    subst he
    simp only [Tr.run] at h
    cases hc:(decide (0 ≤ i) && decide (i ≤ s.length) && decide (s.length ≤ big)) with
    | false => rw [hc] at h; simp at h
    | true =>
    rw [hc] at h
    simp only [Bool.and_eq_true,decide_eq_true_eq] at hc
    obtain ⟨⟨h0,h1⟩,h2⟩:=hc
    unfold big at h2
    refine (loop153 F s K h2 F i h0 h1 (by rw [hF]; unfold FU; omega)).trans ?_
    rw [← h,hF]
    rfl
  · simp [Tr.run] at h
theorem ok209 (W0:World):EKOk Tryz.prog W0 209 (.pure S209):=by
  refine pure_of (tyOk FU [(228,.pure S228)]) (look_ok (all_cons (ok228 W0) all_nil)) mixed fn209 (lps209 FU rfl) fun args r h => ?_
  unfold S209 at h
  split at h
  · rename_i s
    refine (run209 FU s).trans ?_
    rw [← h]
    simp only [Tr.val_chk,chk_some,decide_eq_true_eq] at h
    have h0:=h.1
    simp only [Tr.val_ok,Tr.val_cnd,Tr.val_chk,cnd_i,chk_i,wordB,Bool.and_eq_true,decide_eq_true_eq]
    grind
  · simp [Tr.val_no] at h
theorem ok153 (W0:World):EKOk Tryz.prog W0 153 (.pure S209):=by
  refine pure_of (tyOk FU [(212,.pure S212),(213,.pure S213)]) (look_ok (all_cons (ok212 W0) (all_cons (ok213 W0) all_nil))) mixed fn153 (lps153 FU rfl) fun args r h => ?_
  unfold S209 at h
  split at h
  · rename_i s
    refine (run153 FU s).trans ?_
    rw [← h]
    simp only [Tr.val_chk,chk_some,decide_eq_true_eq] at h
    have h0:=h.1
    simp only [Tr.val_ok,Tr.val_cnd,Tr.val_chk,cnd_i,chk_i,wordB,Bool.and_eq_true,decide_eq_true_eq]
    grind
  · simp [Tr.val_no] at h
theorem rightE_iff (s:List UInt8):decide (rightE 2 0 s = 0) = rightR 2 0 s:=by
  unfold rightE; cases rightR 2 0 s <;> rfl
theorem ok150 (W0:World) (hW:Laid W0):EKOk Tryz.prog W0 150 (.pure S150):=by
  refine pure_of (tyOk FU [(145,.pure S145u),(209,.pure S209),(210,.pure S210)]) (look_ok (all_cons (ok145u W0 hW) (all_cons (ok209 W0) (all_cons (ok210 W0) all_nil)))) mixed fn150 (lpsOk_no _ _) fun args r h => ?_
  unfold S150 at h
  split at h
  · rename_i k s n a
    refine (run150 FU k n a s).trans ?_
    rw [← h]
    simp only [Tr.val_chk,chk_some,decide_eq_true_eq] at h
    have h0:=h.1
    simp only [Tr.val_ok,Tr.val_cnd,Tr.val_chk,cnd_i,chk_i,rightT,rightE_iff,decide_eq_true_eq,h0,if_true]
    by_cases k1:k = 1
    · subst k1; grind
    by_cases k2:k = 2
    · subst k2; grind
    by_cases k3:k = 3
    · subst k3; grind
    by_cases k4:k = 4
    · subst k4; grind
    grind
  · simp [Tr.val_no] at h
theorem ok86 (W0:World):EKOk Tryz.prog W0 86 (.pure S86):=by
  refine pure_of (tyOk FU [(154,.pure S154),(155,.pure S210),(153,.pure S209)]) (look_ok (all_cons (ok154 W0) (all_cons (ok155 W0) (all_cons (ok153 W0) all_nil)))) mixed fn86 (lpsOk_no _ _) fun args r h => ?_
  unfold S86 at h
  split at h
  · rename_i k s n a
    refine (run86 FU k n a s).trans ?_
    rw [← h]
    simp only [Tr.val_chk,chk_some,decide_eq_true_eq] at h
    have h0:=h.1
    have ha:(decide (0 ≤ a)) = !(decide (a < 0)):=by by_cases q:a < 0 <;> simp [q] <;> omega
    simp only [Tr.val_ok,Tr.val_cnd,Tr.val_chk,cnd_i,chk_i,tokRight,rightT,decide_eq_true_eq,h0,if_true,ha]
    by_cases q:a < 0
    · simp [q]
    have hq:decide (a < 0) = false:=decide_eq_false q
    have hn:decide (n ≥ 1) = decide (0 < n):=by simp only [decide_eq_decide]; omega
    simp only [hq,hn,Bool.not_false,Bool.true_and,q,if_false]
    by_cases k1:k = 1
    · subst k1; simp only [if_true]; cases wordB s <;> by_cases qn:n = 0 <;> by_cases ql:(s.length:Int) ≤ 12 <;> simp [qn,ql]
    by_cases k2:k = 2
    · subst k2; grind
    by_cases k3:k = 3
    · subst k3; grind
    by_cases k4:k = 4
    · subst k4; grind
    grind
  · simp [Tr.val_no] at h
theorem ok84 (W0:World) (hW:Laid W0):EKOk Tryz.prog W0 84 (.pure S84):=by
  refine pure_of (tyOk FU [(150,.pure S150)]) (look_ok (all_cons (ok150 W0 hW) all_nil)) mixed fn84 (lpsOk_no _ _) fun args r h => ?_
  unfold S84 at h
  split at h
  · rename_i k s n a
    refine (run84 FU k n a s).trans ?_
    rw [← h]
    simp only [Tr.val_chk,chk_some,decide_eq_true_eq] at h
    have h0:=h.1
    simp only [Tr.val_ok,Tr.val_cnd,Tr.val_chk,cnd_i,chk_i,tokE,tokRight,decide_eq_true_eq,h0,if_true]
    grind
  · simp [Tr.val_no] at h
end Go.PS
end

section
namespace Go.PS
open Go.Proofs
def cI (v:DV) (j:Nat):Int:=match gt .nili v.cells j with | .int _ n => n | _ => 0
def cS (v:DV) (j:Nat):List UInt8:=match gt .nili v.cells j with | .str s => s | _ => []
end Go.PS
end

section
namespace Go.PS
open Go.Proofs
set_option linter.unusedSimpArgs false
theorem atI_c (l:List DV) (i j:Nat):atI l i j = cI (gt .nili l i) j:=rfl
theorem atS_c (l:List DV) (i j:Nat):atS l i j = cS (gt .nili l i) j:=rfl
theorem drop_gt {l:List DV} {i:Int} (h0:0 ≤ i) (h:i < l.length):l.drop i.toNat = gt .nili l i.toNat :: l.drop (i + 1).toNat:=by
  rw [List.drop_eq_getElem_cons (show i.toNat < l.length by omega),show (i + 1).toNat = i.toNat + 1 by omega,gt_eq]
  simp [show i.toNat < l.length by omega]
theorem all_gt {p:DV → Bool} {l:List DV} (h:l.all p = true) {i:Int} (h0:0 ≤ i) (hi:i < l.length):p (gt .nili l i.toNat) = true:=by
  rw [List.all_eq_true] at h
  apply h
  rw [gt_eq]
  simp [show i.toNat < l.length by omega]
end Go.PS
end

section
namespace Go.PS
open Go.Proofs
set_option linter.unusedSimpArgs false
def plainR:PV → PV
  | .tup vs => .tup (vs.map PV.plain)
  | v => v.plain
theorem plainL_enc {o w sig vs xs} (h:PEncL o w sig vs xs):PEncL o w sig (vs.map PV.plain) xs:=by
  match h with
  | .nil => exact .nil
  | .cons hh t => exact .cons hh.plain (plainL_enc t)
theorem plainR_enc {o w sig v x} (h:PEnc o w sig v x):PEnc o w sig (plainR v) x:=by
  unfold plainR
  split
  · cases h with | tup h => exact .tup (plainL_enc h)
  · exact h.plain
theorem gt_plain (vs:List PV) (k:Nat):gt .undef (vs.map PV.plain) k = (gt .undef vs k).plain:=by
  induction vs generalizing k with
  | nil => rfl
  | cons v vs ih => cases k with
    | zero => rfl
    | succ k => exact ih k
theorem plainR_cmp (v:PV) (k:Nat):(cmpV (plainR v) k).noOwn:=by
  unfold plainR
  split
  · unfold cmpV
    dsimp only
    rw [gt_plain]
    exact PV.plain_noOwn _
  · rename_i h
    have hp:∀ vs,v.plain ≠ .tup vs:=by cases v <;> simp_all [PV.plain]
    unfold cmpV
    split
    · rename_i vs e; exact absurd e (hp vs)
    · split
      · exact PV.plain_noOwn _
      · trivial
theorem ek_plain {P:Program} {W0:World} {f:Nat} {S S' : List PV → Tr PV} (h:EKOk P W0 f (.pure S)) (hm:∀ args v,(S' args).val = some v → ∃ u,(S args).val = some u ∧ v = plainR u):EKOk P W0 f (.pure S') :=
  ⟨h.enters,fun args v hv o sig w xs g r e => by
    obtain ⟨u,hu,rfl⟩:=hm args v hv
    refine (h.calls args u hu o sig w xs g r e).mono ?_
    rintro e' w' ⟨x,o',h1,h2,h3,_⟩
    exact ⟨x,o',h1,h2,plainR_enc h3,fun k => Cap.of_noOwn (plainR_cmp u k)⟩⟩
def lexT (s:List UInt8):List DV:=if (lexR s).err = 0 then (lexR s).toks else []
def S42p:List PV → Tr PV
  | [.d (.str s)] => .chk (decide (s.length ≤ big)) (.ok (.tup [.d (.slc 4 (lexT s)),.d (.int .i64 (lexR s).pos),.d (.int .i64 (lexR s).err)]))
  | _ => .no
theorem ok42p (W0:World) (hW:Laid W0):EKOk Tryz.prog W0 42 (.pure S42p):=ek_plain (ok42 W0 hW) fun args v h => by
  unfold S42p at h
  unfold S42
  split at h
  · rename_i s
    simp only [Tr.val_chk,Tr.val_ok,Tr.val_cnd,chk_some,Option.some.injEq] at h ⊢
    obtain ⟨h0,rfl⟩:=h
    unfold lexT
    by_cases e:(lexR s).err = 0
    · refine ⟨.tup [.d (.slc 4 (lexR s).toks),.d (.int .i64 (lexR s).pos),.d (.int .i64 (lexR s).err)],⟨h0,?_⟩,?_⟩
      · rw [cnd_p e]
      · rw [if_pos e]; rfl
    · refine ⟨.tup [.own 4 [],.d (.int .i64 (lexR s).pos),.d (.int .i64 (lexR s).err)],⟨h0,?_⟩,?_⟩
      · rw [cnd_n e]
      · rw [if_neg e]; rfl
  · simp [Tr.val_no] at h
end Go.PS
end

section
namespace Go.PS
open Go.Proofs
set_option linter.unusedSimpArgs false
theorem lps_two {C:Ctx} {L:Lps} {c1 c2:Code} {ks1 xs1 ks2 xs2:List Nat} {T1 T2:St → Tr (Ex × St)} {l:List Code} (hl:l = [c1,c2])
    (e1:L (loopId c1) = some (ks1,xs1,T1)) (e2:L (loopId c2) = some (ks2,xs2,T2))
    (h1:∀ (R:Type) st (K:Ex → St → Option R) (r:R),((T1 st).run fun p => K p.1 p.2) = some r → loopK (pcodeK C L c1) st.heap.length (ks1 ++ temps c1) xs1 C.fuel st K = some r)
    (h2:∀ (R:Type) st (K:Ex → St → Option R) (r:R),((T2 st).run fun p => K p.1 p.2) = some r → loopK (pcodeK C L c2) st.heap.length (ks2 ++ temps c2) xs2 C.fuel st K = some r):LpsOk C L l:=by
  subst hl
  intro c' hc ks' xs' T' hT R st K r hr
  simp only [List.mem_cons,List.mem_singleton,List.not_mem_nil,or_false] at hc
  rcases hc with rfl | rfl
  · rw [e1] at hT
    simp only [Option.some.injEq,Prod.mk.injEq] at hT
    obtain ⟨rfl,rfl,rfl⟩:=hT
    exact h1 R st K r hr
  · rw [e2] at hT
    simp only [Option.some.injEq,Prod.mk.injEq] at hT
    obtain ⟨rfl,rfl,rfl⟩:=hT
    exact h2 R st K r hr
end Go.PS
end

section
namespace Go.PS
open Go.Proofs
abbrev Str:=List UInt8
def strD (l:List Str):List DV:=l.map DV.str
def srcL:List Str:=[[114,111,119,115],[118,97,108,105,100],[100,117,114,105,110,103],[104,105,115,116,111,114,121],[100,105,102,102],[98,108,97,109,101],[108,111,103],[115,105,110,99,101],[118,105,101,119]]
def stpL:List Str:=[[119,104,101,114,101],[115,101,108,101,99,116],[115,111,114,116],[108,105,109,105,116],[99,111,117,110,116],[115,117,109],[109,105,110],[109,97,120]]
def othL:List Str:=[[97,116],[111,110],[97,115,111,102],[98,121],[111,114],[97,110,100],[110,111,116],[117,110,100,101,114],[100,111,119,110]]
def mrkL:List Str:=[[61],[33,61],[60],[60,61],[62],[62,61]]
def resB (s:Str):Bool:=srcL.contains s || stpL.contains s || othL.contains s
def nameB (s:Str):Bool:=tokRight 1 0 0 s && !resB s
def cB (v:DV) (j:Nat):Bool:=match gt .nili v.cells j with | .bool b => b | _ => false
def cL (v:DV) (j:Nat):List DV:=match gt .nili v.cells j with | .slc _ l => l | _ => []
def idxO:List Str → Str → Int → Int
  | [],_,_ => -1
  | w :: l,s,i => if w = s then i else idxO l s (i + 1)
def okI (n:Int):Bool:=decide (-9223372036854775808 ≤ n) && decide (n ≤ 9223372036854775807)
def lenB (B:Nat) (s:Str):Bool:=decide (s.length ≤ B)
def okCol (B:Nat):DV → Bool
  | .agg [.str s,.bool _,.int .i64 _] => lenB B s
  | _ => false
def okC (B:Nat):Nat → DV → Bool
  | n + 1,.agg [.int .i64 _,.str c,.int .i64 _,.int .i64 vn,.str vs,.slc 7 l,.int .i64 _] => lenB B c && lenB B vs && okI vn && decide (l.length ≤ B) && l.all (okC B n)
  | _,_ => false
def okStep (B n:Nat):DV → Bool
  | .agg [.int .i64 _,.int .i64 k,.str c,.int .i64 vk,.int .i64 vn,.str vs,.slc 7 l,.int .i64 p,.slc 3 cols,.slc 3 bys,.int .i64 m,.int .i64 _] =>
    okC B n (.agg [.int .i64 k,.str c,.int .i64 vk,.int .i64 vn,.str vs,.slc 7 l,.int .i64 p]) && cols.all (okCol B) && bys.all (okCol B) && okI m && decide (cols.length ≤ B) && decide (bys.length ≤ B)
  | _ => false
def sidesI (k:Int):Int:=if k = 1 ∨ k = 2 then 2 else if k = 3 then 1 else if 4 ≤ k ∧ k ≤ 10 then 0 else -1
def nzL (f:DV → Int) (l:List DV):Bool:=l.all fun x => decide (f x ≠ 0)
def maxL (f:DV → Int):List DV → Int → Int
  | [],n => n
  | x :: l,n => if f x = 0 then n else maxL f l (max n (f x))
def dep:Nat → DV → Int
  | 0,_ => 0
  | m + 1,v => if ((cL v 5).length:Int) = sidesI (cI v 0) ∧ nzL (dep m) (cL v 5) = true then maxL (dep m) (cL v 5) 0 + 1 else 0
def soundD:Nat → DV → Bool
  | 0,_ => false
  | n + 1,v => if 0 < (cL v 5).length then decide (cS v 1 = []) && (decide (cI v 2 = 0) && (decide (cI v 3 = 0) && decide (cS v 4 = []))) && (cL v 5).all (soundD n)
      else nameB (cS v 1) && rightR (cI v 2) (cI v 3) (cS v 4) && (decide (cI v 0 ≠ 10) || decide (cI v 2 = 2))
def condD:Nat → DV → Bool
  | 0,_ => false
  | n + 1,v => (cL v 5).all (condD n) && (if cI v 0 ≤ 3 then decide (cS v 1 = []) && (decide (cI v 2 = 0) && (decide (cI v 3 = 0) && decide (cS v 4 = [])))
      else nameB (cS v 1) && rightR (cI v 2) (cI v 3) (cS v 4) && (decide (cI v 0 ≠ 10) || decide (cI v 2 = 2)))
def placeB (b:Str) (c:Int) (a:Bool) (t:Int):Bool :=
  if b = [] then decide (c > 0) && !a && decide (t = 0) else decide (c = 0) && nameB b && (a || decide (t = 0))
def noneB (b:Str) (c:Int) (a:Bool) (t:Int):Bool:=decide (b = []) && decide (c = 0) && !a && decide (t = 0)
def srcB (k f t:Int) (path name:Str) (b:Str) (c:Int) (a:Bool) (ti:Int) (b2:Str) (c2:Int) (a2:Bool) (ti2:Int):Bool :=
  if k < 1 ∨ 9 < k then false else
  if (k ≠ 2 ∧ k ≠ 3 ∧ f ≠ 0) ∨ (k ≠ 3 ∧ t ≠ 0) then false else
  if k = 9 then decide (path = []) && noneB b c a ti && noneB b2 c2 a2 ti2 && nameB name else
  if name ≠ [] ∨ placeB b c a ti = false then false else
  if k = 4 then noneB b2 c2 a2 ti2 && rightR 2 0 path else
  if k = 5 ∨ k = 8 then decide (path = []) && placeB b2 c2 a2 ti2 else decide (path = []) && noneB b2 c2 a2 ti2
def colB (down:Bool) (v:DV):Bool:=nameB (cS v 0) && (!cB v 1 || down)
def colsB (l:List DV) (least most:Int) (down:Bool):Bool:=decide ((l.length:Int) ≥ least) && decide ((l.length:Int) ≤ most) && l.all (colB down)
def condOf (v:DV):DV:=.agg (tk (dr v.cells 1) 7)
def bareB (v:DV):Bool:=decide (cI v 0 = 0) && decide (cS v 1 = []) && (decide (cI v 2 = 0) && (decide (cI v 3 = 0) && decide (cS v 4 = []))) && decide ((cL v 5).length = 0)
def stepB (n:Nat) (v:DV):Bool :=
  if cI v 0 = 1 then decide ((cL v 8).length = 0) && decide ((cL v 9).length = 0) && decide (cI v 10 = 0) && decide (dep 16 (condOf v) > 0) && soundD n (condOf v) else
  if bareB (condOf v) = false then false else
  if (cI v 0 ≠ 4 ∧ cI v 10 ≠ 0) ∨ (cI v 0 < 5 ∧ 0 < (cL v 9).length) ∨ colsB (cL v 9) 0 1 false = false then false else
  if cI v 0 = 2 then colsB (cL v 8) 1 8 false else
  if cI v 0 = 3 then colsB (cL v 8) 1 8 true else
  if cI v 0 = 4 then decide ((cL v 8).length = 0) && decide (cI v 10 ≥ 0) else
  if cI v 0 = 5 then decide ((cL v 8).length = 0) else
  if cI v 0 = 6 ∨ cI v 0 = 7 ∨ cI v 0 = 8 then colsB (cL v 8) 1 1 false else false
end Go.PS
end

section
namespace Go.PS
open Go.Proofs
def S129:List PV → Tr PV
  | [] => .ok (.own 1 (strD srcL))
  | _ => .no
def S134:List PV → Tr PV
  | [] => .ok (.own 1 (strD stpL))
  | _ => .no
def S152:List PV → Tr PV
  | [] => .ok (.own 1 (strD othL))
  | _ => .no
def S201:List PV → Tr PV
  | [] => .ok (.own 1 (strD mrkL))
  | _ => .no
def S211:List PV → Tr PV
  | [.d (.slc 1 l),.d (.str s)] => .chk (allStr l && decide (l.length ≤ big)) (.ok (.d (.int .i64 (idxO (strsOf l) s 0))))
  | _ => .no
def S151:List PV → Tr PV
  | [.d (.slc 1 l),.d (.str s)] => .chk (allStr l && decide (l.length ≤ big)) (.ok (.d (.bool (decide (0 ≤ idxO (strsOf l) s 0)))))
  | _ => .no
def S85:List PV → Tr PV
  | [.d (.str s)] => .ok (.d (.bool (resB s)))
  | _ => .no
def S35:List PV → Tr PV
  | [.d (.str s)] => .chk (decide (s.length ≤ big)) (.ok (.d (.bool (nameB s))))
  | _ => .no
def S149:List PV → Tr PV
  | [.d (.int .i64 k)] => .ok (.d (.int .i64 (sidesI k)))
  | _ => .no
theorem strs_strD (l:List Str):strsOf (strD l) = l:=by
  induction l with
  | nil => rfl
  | cons a l ih => show a :: strsOf (strD l) = _; rw [ih]
theorem all_strD (l:List Str):allStr (strD l) = true:=by
  induction l with
  | nil => rfl
  | cons a l ih => exact ih
theorem idx_ge (l:List Str) (s:Str):∀ i:Int,0 ≤ i → idxO l s i = -1 ∨ i ≤ idxO l s i:=by
  induction l with
  | nil => intro i _; exact .inl rfl
  | cons w l ih =>
    intro i hi
    unfold idxO
    split
    · exact .inr (by omega)
    · rcases ih (i + 1) (by omega) with h | h
      · exact .inl h
      · exact .inr (by omega)
theorem idx_contains (l:List Str) (s:Str):∀ i:Int,0 ≤ i → decide (0 ≤ idxO l s i) = l.contains s:=by
  induction l with
  | nil => intro i _; simp [idxO]
  | cons w l ih =>
    intro i hi
    unfold idxO
    by_cases h:w = s
    · rw [if_pos h]; subst h; simp [hi]
    · rw [if_neg h,ih (i + 1) (by omega),List.contains_cons]
      have:(s == w) = false:=by simpa using fun e => h e.symm
      rw [this]; rfl
theorem allStr_gt:∀ {l:List DV} (k:Nat),allStr l = true → k < l.length → fits [.str []] (gt .nili l k).cells = true ∧ ∃ w,gt .nili l k = .str w:=by
  intro l
  induction l with
  | nil => intro k _ h; simp at h
  | cons v l ih =>
    intro k h hk
    cases v <;> simp only [allStr] at h <;> first | cases h | skip
    cases k with
    | zero => exact ⟨rfl,_,rfl⟩
    | succ k => exact ih k h (by simpa using hk)
theorem strs_drop {l:List DV} (h:allStr l = true) {i:Int} (h0:0 ≤ i) (hi:i < l.length):strsOf (l.drop i.toNat) = atS l i.toNat 0 :: strsOf (l.drop (i + 1).toNat):=by
  rw [drop_gt h0 hi]
  obtain ⟨_,w,e⟩:=allStr_gt i.toNat h (by omega)
  rw [atS_c,e]; rfl
theorem ite_step {α:Type} {c:Prop} {inst:Decidable c} {x y r:α} (h1:c → x = r) (h2:¬ c → y = r):(if c then x else y) = r:=by
  by_cases h:c
  · rw [if_pos h]; exact h1 h
  · rw [if_neg h]; exact h2 h
def T211_0 (st:St):Tr (Ex × St) :=
  bif shape 19 [0,1,7,8] st.slots then
    match gt .undef st.slots 0,gt .undef st.slots 1,gt .undef st.slots 7,gt .undef st.slots 8,st.heap with
    | .d (.slc 1 l),.d (.str s),.d (.int .i64 n),.d (.int .i64 i),[] =>
      .chk (decide (n = l.length) && decide (l.length ≤ big) && decide (allStr l = true) && decide (0 ≤ i) && decide (i ≤ l.length)) (.cnd (decide (0 ≤ idxO (strsOf (l.drop i.toNat)) s i)) (.ok (.ret,⟨slots 19 [(4,.d (.int .i64 (idxO (strsOf (l.drop i.toNat)) s i)))],[]⟩)) (.ok (.exit 0,⟨slots 19 [],[]⟩)))
    | _,_,_,_,_ => .no
  else .no
def L211:Lps:=fun i => bif Nat.beq i 2 then some (allBut 19 [0,1,7,8],allBut 19 [4],T211_0) else none
end Go.PS
end

section
namespace Go.PS
open Go.Proofs
set_option maxRecDepth 100000
theorem fn129:FnOk Tryz.prog 129 2 [.tmp 0] (body Tryz.f129):=⟨Tryz.f129,Tryz.func129,bodySome _ (by kernel_rfl),by kernel_rfl,by kernel_rfl,by kernel_rfl,by kernel_rfl⟩
theorem run129 (F:Nat):runP (ctx F []) noL 2 [.tmp 0] (body Tryz.f129) [] = Tr.val (.ok (PV.own 1 [.str ([114,111,119,115]:List UInt8),.str ([118,97,
 108,105,100]:List UInt8),.str ([100,117,114,105,110,103]:List UInt8),.str ([104,105,115,116,111,114,121]:List UInt8),.str ([100,105,102,
 102]:List UInt8),.str ([98,108,97,109,101]:List UInt8),.str ([108,111,103]:List UInt8),.str ([115,105,110,99,101]:List UInt8),.str ([118,
 105,101,119]:List UInt8)])):=by kernel_rfl
theorem fn134:FnOk Tryz.prog 134 2 [.tmp 0] (body Tryz.f134):=⟨Tryz.f134,Tryz.func134,bodySome _ (by kernel_rfl),by kernel_rfl,by kernel_rfl,by kernel_rfl,by kernel_rfl⟩
theorem run134 (F:Nat):runP (ctx F []) noL 2 [.tmp 0] (body Tryz.f134) [] = Tr.val (.ok (PV.own 1 [.str ([119,104,101,114,101]:List UInt8),.str ([115,
 101,108,101,99,116]:List UInt8),.str ([115,111,114,116]:List UInt8),.str ([108,105,109,105,116]:List UInt8),.str ([99,111,117,110,116] :
 List UInt8),.str ([115,117,109]:List UInt8),.str ([109,105,110]:List UInt8),.str ([109,97,120]:List UInt8)])):=by kernel_rfl
theorem fn152:FnOk Tryz.prog 152 2 [.tmp 0] (body Tryz.f152):=⟨Tryz.f152,Tryz.func152,bodySome _ (by kernel_rfl),by kernel_rfl,by kernel_rfl,by kernel_rfl,by kernel_rfl⟩
theorem run152 (F:Nat):runP (ctx F []) noL 2 [.tmp 0] (body Tryz.f152) [] = Tr.val (.ok (PV.own 1 [.str ([97,116]:List UInt8),.str ([111,110]:List
 UInt8),.str ([97,115,111,102]:List UInt8),.str ([98,121]:List UInt8),.str ([111,114]:List UInt8),.str ([97,110,100]:List UInt8),.str ([110,
 111,116]:List UInt8),.str ([117,110,100,101,114]:List UInt8),.str ([100,111,119,110]:List UInt8)])):=by kernel_rfl
theorem fn201:FnOk Tryz.prog 201 2 [.tmp 0] (body Tryz.f201):=⟨Tryz.f201,Tryz.func201,bodySome _ (by kernel_rfl),by kernel_rfl,by kernel_rfl,by kernel_rfl,by kernel_rfl⟩
theorem run201 (F:Nat):runP (ctx F []) noL 2 [.tmp 0] (body Tryz.f201) [] = Tr.val (.ok (PV.own 1 [.str ([61]:List UInt8),.str ([33,61]:List UInt8),
 .str ([60]:List UInt8),.str ([60,61]:List UInt8),.str ([62]:List UInt8),.str ([62,61]:List UInt8)])):=by kernel_rfl
theorem round211_0 (F:Nat) {R:Type} (l:List DV) (s:Str) (n i:Int) (K:Ex → St → Option R) (G:St → Option R):roundK (pcodeK (ctx F []) noL (lp
 Tryz.f211 0)) 0 (allBut 19 [0,1,7,8] ++ temps (lp Tryz.f211 0)) (allBut 19 [4]) ⟨slots 19 [(0,.d (.slc 1 l)),(1,.d (.str s)),(7,.d (.int .i64 n)),(8,.d
 (.int .i64 i))],[]⟩ K G = Tr.run (.cnd (decide (i < n)) (.chk (decide (0 ≤ i)) (.chk (decide (i.toNat < l.length)) (.chk (fits [.str []] (gt DV.nili l
 i.toNat).cells) (.cnd (decide (s = atS l i.toNat 0)) (.ok (.inl (Ex.ret,⟨slots 19 [(4,.d (.int .i64 i))],[]⟩))) (.ok (.inr ⟨slots 19 [(0,.d (.slc 1 l)),(1,
 .d (.str s)),(7,.d (.int .i64 n)),(8,.d (.int .i64 (IntKind.i64.wrap (i + 1))))],[]⟩)))))) (.ok (.inl (Ex.exit 0,⟨slots 19 [],[]⟩)))) (rnd K G):=by
 kernel_rfl
theorem fn211:FnOk Tryz.prog 211 19 [.tmp 4] (body Tryz.f211):=⟨Tryz.f211,Tryz.func211,bodySome _ (by kernel_rfl),by kernel_rfl,by kernel_rfl,by kernel_rfl,by kernel_rfl⟩
theorem run211 (F:Nat) (l:List DV) (s:Str):runP (ctx F []) L211 19 [.tmp 4] (body Tryz.f211) [.d (.slc 1 l),.d (.str s)] = Tr.val (.chk (decide
 ((↑l.length:Int) = (↑l.length:Int)) && decide (l.length ≤ big) && decide (allStr l = true) && decide (0 ≤ 0) && decide (0 ≤ (↑l.length:Int))) (.cnd (decide
 (0 ≤ idxO (strsOf (List.drop (Int.toNat 0) l)) s 0)) (.ok (PV.d (.int .i64 (idxO (strsOf (List.drop (Int.toNat 0) l)) s 0)))) (.ok (PV.d (.int .i64 (Int.negSucc
 0)))))):=by kernel_rfl
theorem fn151:FnOk Tryz.prog 151 9 [.tmp 4] (body Tryz.f151):=⟨Tryz.f151,Tryz.func151,bodySome _ (by kernel_rfl),by kernel_rfl,by kernel_rfl,by kernel_rfl,by kernel_rfl⟩
theorem run151 (F:Nat) (l:List DV) (s:Str):runP (ctx F [(211,.pure S211)]) noL 9 [.tmp 4] (body Tryz.f151) [.d (.slc 1 l),.d (.str s)] = Tr.val (.chk
 (allStr l && decide (l.length ≤ big)) (.ok (PV.d (.bool (decide (idxO (strsOf l) s 0 ≥ 0)))))):=by kernel_rfl
theorem fn85:FnOk Tryz.prog 85 16 [.tmp 2] (body Tryz.f85):=⟨Tryz.f85,Tryz.func85,bodySome _ (by kernel_rfl),by kernel_rfl,by kernel_rfl,by kernel_rfl,by kernel_rfl⟩
theorem run85 (F:Nat) (s:Str):runP (ctx F [(129,.pure S129),(134,.pure S134),(152,.pure S152),(151,.pure S151)]) noL 16 [.tmp 2] (body Tryz.f85) [.d
 (.str s)] = Tr.val (.cnd (decide (0 ≤ idxO (strsOf (strD srcL)) s 0)) (.ok (PV.d (.bool true))) (.cnd (decide (0 ≤ idxO (strsOf (strD stpL)) s 0)) (.ok (PV.d
 (.bool true))) (.ok (PV.d (.bool (decide (0 ≤ idxO (strsOf (strD othL)) s 0))))))):=by kernel_rfl
theorem fn87:FnOk Tryz.prog 87 32 [.tmp 2] (body Tryz.f87):=⟨Tryz.f87,Tryz.func87,bodySome _ (by kernel_rfl),by kernel_rfl,by kernel_rfl,by kernel_rfl,by kernel_rfl⟩
theorem run87 (F:Nat) (s:Str):runP (ctx F []) noL 32 [.tmp 2] (body Tryz.f87) [.d (.str s)] = Tr.val (.cnd (decide (s = ([114,111,119,115]:List
 UInt8))) (.ok (PV.d (.bool true))) (.cnd (decide (s = ([118,97,108,105,100]:List UInt8))) (.ok (PV.d (.bool true))) (.cnd (decide (s = ([100,117,114,
 105,110,103]:List UInt8))) (.ok (PV.d (.bool true))) (.cnd (decide (s = ([104,105,115,116,111,114,121]:List UInt8))) (.ok (PV.d (.bool true))) (.cnd
 (decide (s = ([100,105,102,102]:List UInt8))) (.ok (PV.d (.bool true))) (.cnd (decide (s = ([98,108,97,109,101]:List UInt8))) (.ok (PV.d (.bool
 true))) (.cnd (decide (s = ([108,111,103]:List UInt8))) (.ok (PV.d (.bool true))) (.cnd (decide (s = ([115,105,110,99,101]:List UInt8))) (.ok (PV.d
 (.bool true))) (.cnd (decide (s = ([118,105,101,119]:List UInt8))) (.ok (PV.d (.bool true))) (.cnd (decide (s = ([97,116]:List UInt8))) (.ok (PV.d (.bool
 true))) (.cnd (decide (s = ([111,110]:List UInt8))) (.ok (PV.d (.bool true))) (.cnd (decide (s = ([97,115,111,102]:List UInt8))) (.ok (PV.d (.bool
 true))) (.cnd (decide (s = ([119,104,101,114,101]:List UInt8))) (.ok (PV.d (.bool true))) (.cnd (decide (s = ([115,101,108,101,99,116]:List UInt8)))
 (.ok (PV.d (.bool true))) (.cnd (decide (s = ([115,111,114,116]:List UInt8))) (.ok (PV.d (.bool true))) (.cnd (decide (s = ([108,105,109,105,116]:List
 UInt8))) (.ok (PV.d (.bool true))) (.cnd (decide (s = ([99,111,117,110,116]:List UInt8))) (.ok (PV.d (.bool true))) (.cnd (decide (s = ([115,117,109] :
 List UInt8))) (.ok (PV.d (.bool true))) (.cnd (decide (s = ([109,105,110]:List UInt8))) (.ok (PV.d (.bool true))) (.cnd (decide (s = ([109,97,120]:List
 UInt8))) (.ok (PV.d (.bool true))) (.cnd (decide (s = ([98,121]:List UInt8))) (.ok (PV.d (.bool true))) (.cnd (decide (s = ([111,114]:List UInt8))) (.ok
 (PV.d (.bool true))) (.cnd (decide (s = ([97,110,100]:List UInt8))) (.ok (PV.d (.bool true))) (.cnd (decide (s = ([110,111,116]:List UInt8))) (.ok (PV.d
 (.bool true))) (.cnd (decide (s = ([117,110,100,101,114]:List UInt8))) (.ok (PV.d (.bool true))) (.cnd (decide (s = ([100,111,119,110]:List UInt8)))
 (.ok (PV.d (.bool true))) (.ok (PV.d (.bool false))))))))))))))))))))))))))))):=by kernel_rfl
theorem fn35:FnOk Tryz.prog 35 12 [.tmp 2] (body Tryz.f35):=⟨Tryz.f35,Tryz.func35,bodySome _ (by kernel_rfl),by kernel_rfl,by kernel_rfl,by kernel_rfl,by kernel_rfl⟩
theorem run35 (F:Nat) (s:Str):runP (ctx F [(84,.pure S84),(85,.pure S85)]) noL 12 [.tmp 2] (body Tryz.f35) [.d (.str s)] = Tr.val (.chk (decide
 (List.length s ≤ big)) (.cnd (decide (tokE 1 0 0 s = 0)) (.ok (PV.d (.bool !resB s))) (.ok (PV.d (.bool false))))):=by kernel_rfl
theorem fn36:FnOk Tryz.prog 36 11 [.tmp 2] (body Tryz.f36):=⟨Tryz.f36,Tryz.func36,bodySome _ (by kernel_rfl),by kernel_rfl,by kernel_rfl,by kernel_rfl,by kernel_rfl⟩
theorem run36 (F:Nat) (s:Str):runP (ctx F [(86,.pure S86),(87,.pure S85)]) noL 11 [.tmp 2] (body Tryz.f36) [.d (.str s)] = Tr.val (.chk (decide
 (List.length s ≤ big)) (.cnd (tokRight 1 0 0 s) (.ok (PV.d (.bool !resB s))) (.ok (PV.d (.bool false))))):=by kernel_rfl
theorem fn149:FnOk Tryz.prog 149 20 [.tmp 2] (body Tryz.f149):=⟨Tryz.f149,Tryz.func149,bodySome _ (by kernel_rfl),by kernel_rfl,by kernel_rfl,by kernel_rfl,by kernel_rfl⟩
theorem run149 (F:Nat) (k:Int):runP (ctx F []) noL 20 [.tmp 2] (body Tryz.f149) [.d (.int .i64 k)] = Tr.val (.cnd (decide (k = 1)) (.ok (PV.d (.int .i64
 (2)))) (.cnd (decide (k = 2)) (.ok (PV.d (.int .i64 (2)))) (.cnd (decide (k = 3)) (.ok (PV.d (.int .i64 (1)))) (.cnd (decide (k ≥ 4)) (.cnd (decide (k ≤ 10))
 (.ok (PV.d (.int .i64 (0)))) (.ok (PV.d (.int .i64 (Int.negSucc 0))))) (.ok (PV.d (.int .i64 (Int.negSucc 0)))))))):=by kernel_rfl
end Go.PS
end

section
namespace Go.PS
open Go.Proofs
set_option linter.unusedSimpArgs false
theorem ok129 (W0:World):EKOk Tryz.prog W0 129 (.pure S129):=by
  refine pure_of (tyOk FU []) (look_ok all_nil) mixed fn129 (lpsOk_no _ _) fun args r h => ?_
  unfold S129 at h
  split at h
  ·
    refine (run129 FU ).trans (Eq.trans ?_ h)
    rfl
  · simp [Tr.val_no] at h
theorem ok134 (W0:World):EKOk Tryz.prog W0 134 (.pure S134):=by
  refine pure_of (tyOk FU []) (look_ok all_nil) mixed fn134 (lpsOk_no _ _) fun args r h => ?_
  unfold S134 at h
  split at h
  ·
    refine (run134 FU ).trans (Eq.trans ?_ h)
    rfl
  · simp [Tr.val_no] at h
theorem ok152 (W0:World):EKOk Tryz.prog W0 152 (.pure S152):=by
  refine pure_of (tyOk FU []) (look_ok all_nil) mixed fn152 (lpsOk_no _ _) fun args r h => ?_
  unfold S152 at h
  split at h
  ·
    refine (run152 FU ).trans (Eq.trans ?_ h)
    rfl
  · simp [Tr.val_no] at h
theorem ok201 (W0:World):EKOk Tryz.prog W0 201 (.pure S201):=by
  refine pure_of (tyOk FU []) (look_ok all_nil) mixed fn201 (lpsOk_no _ _) fun args r h => ?_
  unfold S201 at h
  split at h
  ·
    refine (run201 FU ).trans (Eq.trans ?_ h)
    rfl
  · simp [Tr.val_no] at h
theorem loop211_0 (F:Nat) {R:Type} (l:List DV) (s:Str) (n:Int) (K:Ex → St → Option R) (g0:n = l.length) (g1:l.length ≤ big) (g2:allStr l = true) :
    ∀ (m:Nat) (i:Int),0 ≤ i → i ≤ l.length → (l.length - i).toNat < m →
      loopK (pcodeK (ctx F []) noL (lp Tryz.f211 0)) 0 (allBut 19 [0,1,7,8] ++ temps (lp Tryz.f211 0)) (allBut 19 [4]) m
        ⟨slots 19 [(0,.d (.slc 1 l)),(1,.d (.str s)),(7,.d (.int .i64 n)),(8,.d (.int .i64 i))],[]⟩ K =
      Tr.run (.cnd (decide (0 ≤ idxO (strsOf (l.drop i.toNat)) s i)) (.ok (.ret,⟨slots 19 [(4,.d (.int .i64 (idxO (strsOf (l.drop i.toNat)) s i)))],[]⟩)) (.ok (.exit 0,⟨slots 19 [],[]⟩))) (fun p => K p.1 p.2):=by
  intro m
  induction m with
  | zero => intro i; intros; omega
  | succ m ih =>
    intro i h0 h1 hm
    rw [loopK_succ,round211_0]
    unfold big at g1
    simp only [Tr.run,rnd,cnd_i,chk_i,Bool.and_eq_true,decide_eq_true_eq]
    by_cases hi:i < n
    · have w:IntKind.i64.wrap (i + 1) = i + 1:=wrap64 (by omega) (by omega)
      have ht:=(allStr_gt i.toNat g2 (by omega)).1
      have ih1:=ih (i + 1) (by omega) (by omega) (by omega)
      simp only [Tr.run,cnd_i,decide_eq_true_eq] at ih1
      rw [strs_drop g2 h0 (by omega)]
      clear ih
      unfold idxO
      rw [ht]
      grind
    · have:l.drop i.toNat = []:=List.drop_of_length_le (by omega)
      rw [this]
      simp [hi,strsOf,idxO]
theorem lps211 (F:Nat) (hF:F = FU):LpsOk (ctx F []) L211 (loopsOf (body Tryz.f211)):=by
  subst hF
  refine lps_one (c:=lp Tryz.f211 0) rfl (by kernel_rfl) fun R st K r h => ?_
  unfold T211_0 at h
  cases hs:shape 19 [0,1,7,8] st.slots with
  | false => rw [hs] at h; simp [Tr.run] at h
  | true =>
  rw [hs] at h
  simp only [cond_true] at h
  have he:=shape_eq hs
  obtain ⟨sl0,H⟩:=st
  dsimp only at h he ⊢
  split at h
  · rename_i l s n i g0_ g1_ g2_ g3_
    simp only [List.map_cons,List.map_nil,g0_,g1_,g2_,g3_] at he
    subst he
    simp only [Tr.run] at h
    cases hc:(decide (n = l.length) && decide (l.length ≤ big) && decide (allStr l = true) && decide (0 ≤ i) && decide (i ≤ l.length)) with
    | false => rw [hc] at h; simp at h
    | true =>
    rw [hc] at h
    simp only [Bool.and_eq_true,decide_eq_true_eq] at hc
    obtain ⟨⟨⟨⟨c0,c1⟩,c2⟩,c3⟩,c4⟩:=hc
    refine (loop211_0 FU l s n K c0 c1 c2 FU i c3 c4 (by unfold FU; unfold big at *; omega)).trans ?_
    rw [← h]
    rfl
  · simp [Tr.run] at h
theorem ok211 (W0:World):EKOk Tryz.prog W0 211 (.pure S211):=by
  refine pure_of (tyOk FU []) (look_ok all_nil) mixed fn211 (lps211 FU rfl) fun args r h => ?_
  unfold S211 at h
  split at h
  · rename_i l s
    refine (run211 FU l s).trans (Eq.trans ?_ h)
    simp only [Tr.val_chk,chk_some,Bool.and_eq_true,decide_eq_true_eq] at h
    obtain ⟨c0,c1⟩:=h.1
    clear h
    have e:=idx_ge (strsOf l) s 0 (by omega)
    simp only [Tr.val_ok,Tr.val_cnd,Tr.val_chk,cnd_i,chk_i,Bool.and_eq_true,decide_eq_true_eq,List.drop_zero,Int.toNat_zero]
    grind
  · simp [Tr.val_no] at h
theorem ok151 (W0:World):EKOk Tryz.prog W0 151 (.pure S151):=by
  refine pure_of (tyOk FU [(211,.pure S211)]) (look_ok (all_cons (ok211 W0) all_nil)) mixed fn151 (lpsOk_no _ _) fun args r h => ?_
  unfold S151 at h
  split at h
  · rename_i l s
    refine (run151 FU l s).trans (Eq.trans ?_ h)
    simp only [Tr.val_chk,chk_some,Bool.and_eq_true,decide_eq_true_eq] at h
    obtain ⟨c0,c1⟩:=h.1
    clear h
    simp only [Tr.val_ok,Tr.val_cnd,Tr.val_chk,cnd_i,chk_i,Bool.and_eq_true,decide_eq_true_eq,c0,c1,and_self,if_true]
  · simp [Tr.val_no] at h
theorem ok85 (W0:World):EKOk Tryz.prog W0 85 (.pure S85):=by
  refine pure_of (tyOk FU [(129,.pure S129),(134,.pure S134),(152,.pure S152),(151,.pure S151)]) (look_ok (all_cons (ok129 W0) (all_cons (ok134 W0) (all_cons (ok152 W0) (all_cons (ok151 W0) all_nil))))) mixed fn85 (lpsOk_no _ _) fun args r h => ?_
  unfold S85 at h
  split at h
  · rename_i s
    refine (run85 FU s).trans (Eq.trans ?_ h)
    simp only [Tr.val_ok,Tr.val_cnd,Tr.val_chk,strs_strD,all_strD,idx_contains _ _ 0 (Int.le_refl 0)]
    unfold resB
    cases srcL.contains s <;> cases stpL.contains s <;> cases othL.contains s <;> rfl
  · simp [Tr.val_no] at h
theorem ok87 (W0:World):EKOk Tryz.prog W0 87 (.pure S85):=by
  refine pure_of (tyOk FU []) (look_ok all_nil) mixed fn87 (lpsOk_no _ _) fun args r h => ?_
  unfold S85 at h
  split at h
  · rename_i s
    refine (run87 FU s).trans (Eq.trans ?_ h)
    simp only [Tr.val_ok,Tr.val_cnd,Tr.val_chk,cnd_i,decide_eq_true_eq]
    clear h
    iterate 26 (refine ite_step (fun e => by subst e; rfl) fun _ => ?_)
    have e:resB s = false:=by
      unfold resB srcL stpL othL
      simp only [List.contains_cons,List.contains_nil,Bool.or_false,Bool.or_eq_false_iff,beq_eq_false_iff_ne,ne_eq]
      and_intros <;> assumption
    rw [e]
  · simp [Tr.val_no] at h
theorem ok35 (W0:World) (hW:Laid W0):EKOk Tryz.prog W0 35 (.pure S35):=by
  refine pure_of (tyOk FU [(84,.pure S84),(85,.pure S85)]) (look_ok (all_cons (ok84 W0 hW) (all_cons (ok85 W0) all_nil))) mixed fn35 (lpsOk_no _ _) fun args r h => ?_
  unfold S35 at h
  split at h
  · rename_i s
    refine (run35 FU s).trans (Eq.trans ?_ h)
    simp only [Tr.val_chk,chk_some,Bool.and_eq_true,decide_eq_true_eq] at h
    obtain c0:=h.1
    clear h
    simp only [Tr.val_ok,Tr.val_cnd,Tr.val_chk,cnd_i,chk_i,decide_eq_true_eq,c0,if_true,nameB,tokE]
    by_cases h:tokRight 1 0 0 s = true <;> simp [h]
  · simp [Tr.val_no] at h
theorem ok36 (W0:World):EKOk Tryz.prog W0 36 (.pure S35):=by
  refine pure_of (tyOk FU [(86,.pure S86),(87,.pure S85)]) (look_ok (all_cons (ok86 W0) (all_cons (ok87 W0) all_nil))) mixed fn36 (lpsOk_no _ _) fun args r h => ?_
  unfold S35 at h
  split at h
  · rename_i s
    refine (run36 FU s).trans (Eq.trans ?_ h)
    simp only [Tr.val_chk,chk_some,Bool.and_eq_true,decide_eq_true_eq] at h
    obtain c0:=h.1
    clear h
    simp only [Tr.val_ok,Tr.val_cnd,Tr.val_chk,cnd_i,chk_i,decide_eq_true_eq,c0,if_true,nameB,tokE]
    by_cases h:tokRight 1 0 0 s = true <;> simp [h]
  · simp [Tr.val_no] at h
theorem ok149 (W0:World):EKOk Tryz.prog W0 149 (.pure S149):=by
  refine pure_of (tyOk FU []) (look_ok all_nil) mixed fn149 (lpsOk_no _ _) fun args r h => ?_
  unfold S149 at h
  split at h
  · rename_i k
    refine (run149 FU k).trans (Eq.trans ?_ h)
    simp only [Tr.val_ok,Tr.val_cnd,Tr.val_chk,cnd_i,chk_i,decide_eq_true_eq,sidesI,Bool.or_eq_true,Bool.and_eq_true]
    grind
  · simp [Tr.val_no] at h
end Go.PS
end

section
namespace Go.PS
open Go.Proofs
theorem okC_inv {B n:Nat} {v:DV} (h:okC B (n + 1) v = true):∃ k c vk vn vs l p,v = .agg [.int .i64 k,.str c,.int .i64 vk,.int .i64 vn,.str vs,.slc 7 l,.int .i64 p] ∧ c.length ≤ B ∧ vs.length ≤ B ∧ okI vn = true ∧ l.length ≤ B ∧ l.all (okC B n) = true:=by
  unfold okC at h
  split at h
  · rename_i n' k c vk vn vs l p heq
    cases heq
    simp only [Bool.and_eq_true,decide_eq_true_eq,lenB] at h
    obtain ⟨⟨⟨⟨h1,h2⟩,h3⟩,h4⟩,h5⟩:=h
    exact ⟨_,_,_,_,_,_,_,rfl,h1,h2,h3,h4,h5⟩
  · simp at h
theorem okC_zero {B:Nat} {v:DV}:okC B 0 v = false:=by unfold okC; cases v <;> rfl
theorem okC_pos {B n:Nat} {v:DV} (h:okC B n v = true):∃ m,n = m + 1:=by
  cases n with
  | zero => rw [okC_zero] at h; simp at h
  | succ m => exact ⟨m,rfl⟩
theorem okC_fits {B n:Nat} {v:DV} (h:okC B n v = true):fits [.int .i64 0,.str [],.int .i64 0,.int .i64 0,.str [],.nils 7,.int .i64 0] v.cells = true:=by
  obtain ⟨m,rfl⟩:=okC_pos h
  obtain ⟨k,c,vk,vn,vs,l,p,rfl,_⟩:=okC_inv h
  rfl
theorem okC_view {B n:Nat} {l:List DV} {i:Nat} (h:okC B n (gt .nili l i) = true) :
    DV.agg [view l i 0 (DV.int .i64 0),view l i (0 + 1) (DV.str []),view l i (0 + 1 + 1) (DV.int .i64 0),view l i (0 + 1 + 1 + 1) (DV.int .i64 0),view l i (0 + 1 + 1 + 1 + 1) (DV.str []),view l i (0 + 1 + 1 + 1 + 1 + 1) (DV.nils 7),view l i (0 + 1 + 1 + 1 + 1 + 1 + 1) (DV.int .i64 0)] = gt .nili l i:=by
  obtain ⟨m,rfl⟩:=okC_pos h
  obtain ⟨k,c,vk,vn,vs,l',p,e,_⟩:=okC_inv h
  unfold view atI atS atL
  rw [e]; rfl
theorem dep_le:∀ (m:Nat) (v:DV),0 ≤ dep m v ∧ dep m v ≤ m:=by
  intro m
  induction m with
  | zero => intro v; simp [dep]
  | succ m ih =>
    intro v
    have hm:∀ (l:List DV) (n:Int),0 ≤ n → n ≤ m → 0 ≤ maxL (dep m) l n ∧ maxL (dep m) l n ≤ m:=by
      intro l
      induction l with
      | nil => intro n h1 h2; exact ⟨h1,h2⟩
      | cons x l ihl =>
        intro n h1 h2
        have:=ih x
        unfold maxL
        split
        · exact ⟨h1,h2⟩
        · exact ihl _ (by omega) (by omega)
    unfold dep
    have:=hm (cL v 5) 0 (by omega) (by omega)
    split <;> omega
theorem ek_void {f:Nat} {S:List PV → Tr PV} {n rs c} (W0:World) (hf:FnOk Tryz.prog f n rs c) (h:∀ args v,(S args).val ≠ some v):EKOk Tryz.prog W0 f (.pure S) :=
  pure_of (tyOk FU []) (look_ok all_nil) mixed hf (lpsOk_no _ _) fun args r hr => absurd hr (h args r)
def S82 (B kk:Nat):List PV → Tr PV
  | [.d v,.d (.int .i64 a)] => .chk (okC B kk v && decide (a ≤ 1000) && decide (B ≤ big)) (.ok (.d (.int .i64 (dep a.toNat v))))
  | _ => .no
def S33 (B kk:Nat):List PV → Tr PV
  | [.d v] => .chk (okC B kk v && decide (B ≤ big)) (.ok (.d (.int .i64 (dep 16 v))))
  | _ => .no
theorem S82_zero (B:Nat) (args:List PV) (v:PV):(S82 B 0 args).val ≠ some v:=by
  unfold S82
  split
  · rw [okC_zero]; simp [Tr.val_chk]
  · simp [Tr.val_no]
theorem nz_drop {f:DV → Int} {xs:List DV} {i:Int} (h0:0 ≤ i) (h:i < xs.length):nzL f (xs.drop i.toNat) = (decide (f (gt .nili xs i.toNat) ≠ 0) && nzL f (xs.drop (i + 1).toNat)):=by
  rw [drop_gt h0 h]; rfl
theorem max_drop {f:DV → Int} {xs:List DV} {i n:Int} (h0:0 ≤ i) (h:i < xs.length):maxL f (xs.drop i.toNat) n = if f (gt .nili xs i.toNat) = 0 then n else maxL f (xs.drop (i + 1).toNat) (max n (f (gt .nili xs i.toNat))):=by
  rw [drop_gt h0 h]; rfl
def T82_0 (B kk:Nat) (st:St):Tr (Ex × St) :=
  bif shape 39 [1,5,21,22,23] st.slots then
    match gt .undef st.slots 1,gt .undef st.slots 5,gt .undef st.slots 21,gt .undef st.slots 22,gt .undef st.slots 23,st.heap with
    | .d (.int .i64 a),.d (.int .i64 n),.d (.slc 7 xs),.d (.int .i64 len),.d (.int .i64 i),[.cells [.d (.int .i64 k),.d (.str c),.d (.int .i64 vk),.d (.int .i64 vn),.d (.str vs),.d (.slc 7 l),.d (.int .i64 p)]] =>
      .chk (decide (len = xs.length) && decide (xs.length ≤ big) && decide (B ≤ big) && decide (xs.all (okC B kk) = true) && decide (1 ≤ a) && decide (a ≤ 1000) && decide (0 ≤ i) && decide (i ≤ xs.length) && decide (0 ≤ n)) (.cnd (nzL (dep (a - 1).toNat) (xs.drop i.toNat)) (.ok (.exit 0,⟨slots 39 [(5,.d (.int .i64 (maxL (dep (a - 1).toNat) (xs.drop i.toNat) n)))],[.cells [.d (.int .i64 k),.d (.str c),.d (.int .i64 vk),.d (.int .i64 vn),.d (.str vs),.d (.slc 7 l),.d (.int .i64 p)]]⟩)) (.ok (.ret,⟨slots 39 [(4,.d (.int .i64 0)),(5,.d (.int .i64 (maxL (dep (a - 1).toNat) (xs.drop i.toNat) n)))],[.cells [.d (.int .i64 k),.d (.str c),.d (.int .i64 vk),.d (.int .i64 vn),.d (.str vs),.d (.slc 7 l),.d (.int .i64 p)]]⟩)))
    | _,_,_,_,_,_ => .no
  else .no
def L82 (B kk:Nat):Lps:=fun i => bif Nat.beq i 5 then some (allBut 39 [1,5,21,22,23],allBut 39 [4,5],T82_0 B kk) else none
end Go.PS
end

section
namespace Go.PS
open Go.Proofs
set_option maxRecDepth 100000
theorem round82_0 (F:Nat) {R:Type} (B kk:Nat) (a:Int) (xs:List DV) (n len i:Int) (k:Int) (c:Str) (vk vn:Int) (vs:Str) (l:List DV) (p:Int)
 (K:Ex → St → Option R) (G:St → Option R):roundK (pcodeK (ctx F [(149,.pure S149),(82,.pure (S82 B kk))]) noL (lp Tryz.f82 0)) 1 (allBut 39 [1,5,21,
 22,23] ++ temps (lp Tryz.f82 0)) (allBut 39 [4,5]) ⟨slots 39 [(1,.d (.int .i64 a)),(5,.d (.int .i64 n)),(21,.d (.slc 7 xs)),(22,.d (.int .i64 len)),
 (23,.d (.int .i64 i))],[.cells [.d (.int .i64 k),.d (.str c),.d (.int .i64 vk),.d (.int .i64 vn),.d (.str vs),.d (.slc 7 l),.d (.int .i64 p)]]⟩ K G =
 Tr.run (.cnd (decide (i < len)) (.chk (decide (0 ≤ i)) (.chk (decide (i.toNat < xs.length)) (.chk (fits [.int .i64 0,.str [],.int .i64 0,.int .i64 0,.str [],
 .nils 7,.int .i64 0] (gt DV.nili xs i.toNat).cells) (.chk (okC B kk (DV.agg [view xs i.toNat 0 (.int .i64 0),view xs i.toNat (0 + 1) (.str []),view xs i.toNat
 (0 + 1 + 1) (.int .i64 0),view xs i.toNat (0 + 1 + 1 + 1) (.int .i64 0),view xs i.toNat (0 + 1 + 1 + 1 + 1) (.str []),view xs i.toNat (0 + 1 + 1 + 1 + 1 + 1)
 (.nils 7),view xs i.toNat (0 + 1 + 1 + 1 + 1 + 1 + 1) (.int .i64 0)]) && decide (IntKind.i64.wrap (a - 1) ≤ 1000) && decide (B ≤ big)) (.cnd (decide (dep
 (IntKind.i64.wrap (a - 1)).toNat (DV.agg [view xs i.toNat 0 (.int .i64 0),view xs i.toNat (0 + 1) (.str []),view xs i.toNat (0 + 1 + 1) (.int .i64 0),view xs
 i.toNat (0 + 1 + 1 + 1) (.int .i64 0),view xs i.toNat (0 + 1 + 1 + 1 + 1) (.str []),view xs i.toNat (0 + 1 + 1 + 1 + 1 + 1) (.nils 7),view xs i.toNat (0 + 1 +
 1 + 1 + 1 + 1 + 1) (.int .i64 0)]) = 0)) (.ok (.inl (Ex.ret,⟨slots 39 [(4,.d (.int .i64 (0))),(5,.d (.int .i64 n))],[PObj.cells [.d (.int .i64 k),.d (.str
 c),.d (.int .i64 vk),.d (.int .i64 vn),.d (.str vs),.d (.slc 7 l),.d (.int .i64 p)]]⟩))) (.ok (.inr ⟨slots 39 [(1,.d (.int .i64 a)),(5,.d (.int .i64 (max
 n (dep (IntKind.i64.wrap (a - 1)).toNat (DV.agg [view xs i.toNat 0 (.int .i64 0),view xs i.toNat (0 + 1) (.str []),view xs i.toNat (0 + 1 + 1) (.int .i64 0),
 view xs i.toNat (0 + 1 + 1 + 1) (.int .i64 0),view xs i.toNat (0 + 1 + 1 + 1 + 1) (.str []),view xs i.toNat (0 + 1 + 1 + 1 + 1 + 1) (.nils 7),view xs i.toNat
 (0 + 1 + 1 + 1 + 1 + 1 + 1) (.int .i64 0)]))))),(21,.d (.slc 7 xs)),(22,.d (.int .i64 len)),(23,.d (.int .i64 (IntKind.i64.wrap (i + 1))))],[PObj.cells
 [.d (.int .i64 k),.d (.str c),.d (.int .i64 vk),.d (.int .i64 vn),.d (.str vs),.d (.slc 7 l),.d (.int .i64 p)]]⟩))))))) (.ok (.inl (Ex.exit 0,⟨slots 39
 [(5,.d (.int .i64 n))],[PObj.cells [.d (.int .i64 k),.d (.str c),.d (.int .i64 vk),.d (.int .i64 vn),.d (.str vs),.d (.slc 7 l),.d (.int .i64 p)]]⟩))))
 (rnd K G):=by kernel_rfl
theorem fn82:FnOk Tryz.prog 82 39 [.tmp 4] (body Tryz.f82):=⟨Tryz.f82,Tryz.func82,bodySome _ (by kernel_rfl),by kernel_rfl,by kernel_rfl,by kernel_rfl,by kernel_rfl⟩
theorem run82 (F:Nat) (B kk:Nat) (k:Int) (c:Str) (vk vn:Int) (vs:Str) (l:List DV) (p:Int) (a:Int):runP (ctx F [(149,.pure S149),(82,.pure
 (S82 B kk))]) (L82 B kk) 39 [.tmp 4] (body Tryz.f82) [.d (.agg [.int .i64 k,.str c,.int .i64 vk,.int .i64 vn,.str vs,.slc 7 l,.int .i64 p]),.d (.int .i64
 a)] = Tr.val (.cnd (decide (a < 1)) (.ok (PV.d (.int .i64 (0)))) (.cnd (!decide ((↑l.length:Int) = sidesI k)) (.ok (PV.d (.int .i64 (0)))) (.chk (decide
 ((↑l.length:Int) = (↑l.length:Int)) && decide (l.length ≤ big) && decide (B ≤ big) && decide (l.all (okC B kk) = true) && decide (1 ≤ a) && decide (a ≤ 1000)
 && decide (0 ≤ 0) && decide (0 ≤ (↑l.length:Int)) && decide (0 ≤ 0)) (.cnd (nzL (dep (a - 1).toNat) (List.drop (Int.toNat 0) l)) (.ok (PV.d (.int .i64
 (IntKind.i64.wrap (maxL (dep (a - 1).toNat) (List.drop (Int.toNat 0) l) 0 + 1))))) (.ok (PV.d (.int .i64 (0)))))))):=by kernel_rfl
end Go.PS
end

section
namespace Go.PS
open Go.Proofs
set_option linter.unusedSimpArgs false
theorem loop82_0 (F:Nat) {R:Type} (B:Nat) (kk:Nat) (a:Int) (xs:List DV) (len:Int) (k:Int) (c:Str) (vk:Int) (vn:Int) (vs:Str) (l:List DV) (p:Int) (K:Ex → St → Option R) (g0:len = xs.length) (g1:xs.length ≤ big) (g2:B ≤ big) (g3:xs.all (okC B kk) = true) (g4:1 ≤ a) (g5:a ≤ 1000) :
    ∀ (m:Nat) (n:Int) (i:Int),0 ≤ i → i ≤ xs.length → 0 ≤ n → (xs.length - i).toNat < m →
      loopK (pcodeK (ctx F [(149,.pure S149),(82,.pure (S82 B kk))]) noL (lp Tryz.f82 0)) 1 (allBut 39 [1,5,21,22,23] ++ temps (lp Tryz.f82 0)) (allBut 39 [4,5]) m
        ⟨slots 39 [(1,.d (.int .i64 a)),(5,.d (.int .i64 n)),(21,.d (.slc 7 xs)),(22,.d (.int .i64 len)),(23,.d (.int .i64 i))],[.cells [.d (.int .i64 k),.d (.str c),.d (.int .i64 vk),.d (.int .i64 vn),.d (.str vs),.d (.slc 7 l),.d (.int .i64 p)]]⟩ K =
      Tr.run (.cnd (nzL (dep (a - 1).toNat) (xs.drop i.toNat)) (.ok (.exit 0,⟨slots 39 [(5,.d (.int .i64 (maxL (dep (a - 1).toNat) (xs.drop i.toNat) n)))],[.cells [.d (.int .i64 k),.d (.str c),.d (.int .i64 vk),.d (.int .i64 vn),.d (.str vs),.d (.slc 7 l),.d (.int .i64 p)]]⟩)) (.ok (.ret,⟨slots 39 [(4,.d (.int .i64 0)),(5,.d (.int .i64 (maxL (dep (a - 1).toNat) (xs.drop i.toNat) n)))],[.cells [.d (.int .i64 k),.d (.str c),.d (.int .i64 vk),.d (.int .i64 vn),.d (.str vs),.d (.slc 7 l),.d (.int .i64 p)]]⟩))) (fun p => K p.1 p.2):=by
  intro m
  induction m with
  | zero => intro n i; intros; omega
  | succ m ih =>
    intro n i h0 h1 h2 hm
    rw [loopK_succ,round82_0]
    unfold big at g1
    have w2:IntKind.i64.wrap (a - 1) = a - 1:=wrap64 (by omega) (by omega)
    simp only [Tr.run,rnd,cnd_i,chk_i,Bool.and_eq_true,decide_eq_true_eq,w2]
    by_cases hi:i < len
    · have w:IntKind.i64.wrap (i + 1) = i + 1:=wrap64 (by omega) (by omega)
      have hx:=all_gt g3 (i:=i) (by omega) (by omega)
      have ht:=okC_fits hx
      have hd:=(dep_le (a - 1).toNat (gt .nili xs i.toNat)).1
      rw [okC_view hx]
      have ih1:=ih (max n (dep (a - 1).toNat (gt .nili xs i.toNat))) (i + 1)
      simp only [Tr.run,cnd_i] at ih1
      rw [nz_drop (by omega) (by omega),max_drop (by omega) (by omega)]
      clear ih
      rw [ht,hx]
      grind
    · have:xs.drop i.toNat = []:=List.drop_of_length_le (by omega)
      rw [this]
      simp [hi,nzL,maxL]
theorem lps82 (F:Nat) (hF:F = FU) (B kk:Nat):LpsOk (ctx F [(149,.pure S149),(82,.pure (S82 B kk))]) (L82 B kk) (loopsOf (body Tryz.f82)):=by
  subst hF
  refine lps_one (c:=lp Tryz.f82 0) rfl (by kernel_rfl) fun R st K r h => ?_
  unfold T82_0 at h
  cases hs:shape 39 [1,5,21,22,23] st.slots with
  | false => rw [hs] at h; simp [Tr.run] at h
  | true =>
  rw [hs] at h
  simp only [cond_true] at h
  have he:=shape_eq hs
  obtain ⟨sl0,H⟩:=st
  dsimp only at h he ⊢
  split at h
  · rename_i a n xs len i k c vk vn vs l p g0_ g1_ g2_ g3_ g4_
    simp only [List.map_cons,List.map_nil,g0_,g1_,g2_,g3_,g4_] at he
    subst he
    simp only [Tr.run] at h
    cases hc:(decide (len = xs.length) && decide (xs.length ≤ big) && decide (B ≤ big) && decide (xs.all (okC B kk) = true) && decide (1 ≤ a) && decide (a ≤ 1000) && decide (0 ≤ i) && decide (i ≤ xs.length) && decide (0 ≤ n)) with
    | false => rw [hc] at h; simp at h
    | true =>
    rw [hc] at h
    simp only [Bool.and_eq_true,decide_eq_true_eq] at hc
    obtain ⟨⟨⟨⟨⟨⟨⟨⟨c0,c1⟩,c2⟩,c3⟩,c4⟩,c5⟩,c6⟩,c7⟩,c8⟩:=hc
    refine (loop82_0 FU B kk a xs len k c vk vn vs l p K c0 c1 c2 c3 c4 c5 FU n i c6 c7 c8 (by unfold FU; unfold big at *; omega)).trans ?_
    rw [← h]
    rfl
  · simp [Tr.run] at h
theorem ok82s (W0:World) (B kk:Nat) (ih:EKOk Tryz.prog W0 82 (.pure (S82 B kk))):EKOk Tryz.prog W0 82 (.pure (S82 B (kk + 1))):=by
  refine pure_of (tyOk FU [(149,.pure S149),(82,.pure (S82 B kk))]) (look_ok (all_cons (ok149 W0) (all_cons ih all_nil))) mixed fn82 (lps82 FU rfl B kk) fun args r h => ?_
  unfold S82 at h
  split at h
  · rename_i v a
    simp only [Tr.val_chk,chk_some,Bool.and_eq_true,decide_eq_true_eq] at h
    obtain ⟨⟨⟨hv,ha⟩,hB⟩,h⟩:=h
    obtain ⟨k,c,vk,vn,vs,l,p,rfl,h1,h2,h3,h4,h5⟩:=okC_inv hv
    refine (run82 FU B kk k c vk vn vs l p a).trans (Eq.trans ?_ h)
    simp only [Tr.val_ok,Tr.val_cnd,Tr.val_chk,cnd_i,chk_i,Bool.and_eq_true,decide_eq_true_eq,List.drop_zero,Int.toNat_zero,Bool.true_and]
    clear h ih hv
    by_cases ha1:a < 1
    · have e:a.toNat = 0:=by omega
      simp [ha1,e,dep]
    · have e:a.toNat = (a - 1).toNat + 1:=by omega
      rw [e]
      have hle:=dep_le ((a - 1).toNat + 1) (.agg [.int .i64 k,.str c,.int .i64 vk,.int .i64 vn,.str vs,.slc 7 l,.int .i64 p])
      unfold dep at hle ⊢
      have e1:cL (.agg [.int .i64 k,.str c,.int .i64 vk,.int .i64 vn,.str vs,.slc 7 l,.int .i64 p]) 5 = l:=rfl
      have e2:cI (.agg [.int .i64 k,.str c,.int .i64 vk,.int .i64 vn,.str vs,.slc 7 l,.int .i64 p]) 0 = k:=rfl
      rw [e1,e2] at hle ⊢
      have hw:((l.length:Int) = sidesI k ∧ nzL (dep (a - 1).toNat) l = true) → IntKind.i64.wrap (maxL (dep (a - 1).toNat) l 0 + 1) = maxL (dep (a - 1).toNat) l 0 + 1:=fun hc => by
        rw [if_pos hc] at hle
        exact wrap64 (by omega) (by omega)
      clear hle
      have hb:l.length ≤ big:=by omega
      grind
  · simp [Tr.val_no] at h
theorem ok82 (W0:World) (B:Nat):∀ kk,EKOk Tryz.prog W0 82 (.pure (S82 B kk)):=by
  intro kk
  induction kk with
  | zero => exact ek_void W0 fn82 (S82_zero B)
  | succ kk ih => exact ok82s W0 B kk ih
end Go.PS
end

section
namespace Go.PS
open Go.Proofs
def idxP (f:DV → Bool):List DV → Int → Int
  | [],_ => -1
  | x :: l,i => if f x = true then i else idxP f l (i + 1)
theorem idx_drop {f:DV → Bool} {xs:List DV} {i:Int} (h0:0 ≤ i) (h:i < xs.length):idxP f (xs.drop i.toNat) i = if f (gt .nili xs i.toNat) = true then i else idxP f (xs.drop (i + 1).toNat) (i + 1):=by
  rw [drop_gt h0 h]; rfl
theorem idxP_ge (f:DV → Bool) (l:List DV):∀ i:Int,0 ≤ i → idxP f l i = -1 ∨ i ≤ idxP f l i:=by
  induction l with
  | nil => intro i _; exact .inl rfl
  | cons w l ih =>
    intro i hi
    unfold idxP
    split
    · exact .inr (by omega)
    · rcases ih (i + 1) (by omega) with h | h
      · exact .inl h
      · exact .inr (by omega)
theorem idxP_any (f:DV → Bool) (l:List DV):∀ i:Int,0 ≤ i → decide (idxP f l i ≥ 0) = l.any f:=by
  induction l with
  | nil => intro i _; simp [idxP]
  | cons w l ih =>
    intro i hi
    unfold idxP
    by_cases h:f w = true
    · rw [if_pos h]; simp [h,hi]
    · rw [if_neg h,ih (i + 1) (by omega),List.any_cons]
      simp [h]
theorem any_not (f:DV → Bool) (l:List DV):(!l.any fun x => !f x) = l.all f:=by
  induction l with
  | nil => rfl
  | cons a l ih => simp only [List.any_cons,List.all_cons,Bool.not_or,Bool.not_not,ih]
theorem okCol_inv {B:Nat} {v:DV} (h:okCol B v = true):∃ s d p,v = .agg [.str s,.bool d,.int .i64 p] ∧ s.length ≤ B:=by
  unfold okCol at h
  split at h
  · rename_i s d p
    simp only [lenB,decide_eq_true_eq] at h
    exact ⟨_,_,_,rfl,h⟩
  · simp at h
theorem okCol_fits {B:Nat} {v:DV} (h:okCol B v = true):fits [.str [],.bool false,.int .i64 0] v.cells = true:=by
  obtain ⟨s,d,p,rfl,_⟩:=okCol_inv h
  rfl
theorem okCol_view {B:Nat} {l:List DV} {i:Nat} (h:okCol B (gt .nili l i) = true) :
    DV.agg [view l i 0 (DV.str []),view l i (0 + 1) (DV.bool false),view l i (0 + 1 + 1) (DV.int .i64 0)] = gt .nili l i:=by
  obtain ⟨s,d,p,e,_⟩:=okCol_inv h
  unfold view
  simp only [atI,atS,atL,atB]
  rw [e]; rfl
theorem all_drop {f:DV → Bool} {xs:List DV} {i:Int} (h0:0 ≤ i) (h:i < xs.length):(xs.drop i.toNat).all f = (f (gt .nili xs i.toNat) && (xs.drop (i + 1).toNat).all f):=by
  rw [drop_gt h0 h]; rfl
def S147 (B kk:Nat):List PV → Tr PV
  | [.d v] => .chk (okC B kk v && decide (B ≤ big)) (.ok (.d (.bool (soundD kk v))))
  | _ => .no
def S206 (B kk:Nat):List PV → Tr PV
  | [.d v] => .chk (okC B kk v && decide (B ≤ big)) (.ok (.d (.bool (!soundD kk v))))
  | _ => .no
def S241 (B kk:Nat):List PV → Tr PV
  | [.d (.slc 7 l),.func 206 []] => .chk (l.all (okC B kk) && decide (l.length ≤ big) && decide (B ≤ big)) (.ok (.d (.int .i64 (idxP (fun x => !soundD kk x) l 0))))
  | _ => .no
def S205 (B kk:Nat):List PV → Tr PV
  | [.d (.slc 7 l),.func 206 []] => .chk (l.all (okC B kk) && decide (l.length ≤ big) && decide (B ≤ big)) (.ok (.d (.bool (l.any fun x => !soundD kk x))))
  | _ => .no
def S193 (B kk:Nat):List PV → Tr PV
  | [.d v] => .chk (okC B kk v && decide (B ≤ big)) (.ok (.d (.bool (condD kk v))))
  | _ => .no
theorem S147_zero (B:Nat) (args:List PV) (v:PV):(S147 B 0 args).val ≠ some v:=by
  unfold S147
  split
  · rw [okC_zero]; simp [Tr.val_chk]
  · simp [Tr.val_no]
theorem S193_zero (B:Nat) (args:List PV) (v:PV):(S193 B 0 args).val ≠ some v:=by
  unfold S193
  split
  · rw [okC_zero]; simp [Tr.val_chk]
  · simp [Tr.val_no]
def S207 (B:Nat):List PV → List PObj → Tr (Out × List PObj)
  | [.d v,.ptr 0 0],[.cells [.d (.bool d)]] => .chk (okCol B v && decide (B ≤ big)) (.ok (.ret (.d (.bool (!colB d v))),[.cells [.d (.bool d)]]))
  | _,_ => .no
def S242 (B:Nat):List PV → List PObj → Tr (Out × List PObj)
  | [.d (.slc 3 l),.func 207 [.ptr 0 0]],[.cells [.d (.bool d)]] => .chk (l.all (okCol B) && decide (l.length ≤ big) && decide (B ≤ big)) (.ok (.ret (.d (.int .i64 (idxP (fun x => !colB d x) l 0))),[.cells [.d (.bool d)]]))
  | _,_ => .no
def S208 (B:Nat):List PV → List PObj → Tr (Out × List PObj)
  | [.d (.slc 3 l),.func 207 [.ptr 0 0]],[.cells [.d (.bool d)]] => .chk (l.all (okCol B) && decide (l.length ≤ big) && decide (B ≤ big)) (.ok (.ret (.d (.bool (l.any fun x => !colB d x))),[.cells [.d (.bool d)]]))
  | _,_ => .no
def S148 (B:Nat):List PV → Tr PV
  | [.d (.slc 3 l),.d (.int .i64 a),.d (.int .i64 b),.d (.bool d)] => .chk (l.all (okCol B) && decide (l.length ≤ big) && decide (B ≤ big)) (.ok (.d (.bool (colsB l a b d))))
  | _ => .no
def S144:List PV → Tr PV
  | [.d (.agg [.str b,.int .i64 c,.bool a,.int .i64 t,.int .i64 _])] => .chk (decide (b.length ≤ big)) (.ok (.d (.bool (placeB b c a t))))
  | _ => .no
def S196:List PV → Tr PV
  | [.d (.agg [.str b,.int .i64 c,.bool a,.int .i64 t,.int .i64 _])] => .ok (.d (.bool (noneB b c a t)))
  | _ => .no
def S194:List PV → Tr PV
  | [.d (.agg [.int .i64 k,.str c,.int .i64 vk,.int .i64 vn,.str vs,.slc 7 l,.int .i64 p])] => .ok (.d (.bool (bareB (.agg [.int .i64 k,.str c,.int .i64 vk,.int .i64 vn,.str vs,.slc 7 l,.int .i64 p]))))
  | _ => .no
theorem soundD_s (n:Nat) (k:Int) (c:Str) (vk vn:Int) (vs:Str) (l:List DV) (p:Int):soundD (n + 1) (.agg [.int .i64 k,.str c,.int .i64 vk,.int .i64 vn,.str vs,.slc 7 l,.int .i64 p]) =
    if 0 < l.length then decide (c = []) && (decide (vk = 0) && (decide (vn = 0) && decide (vs = []))) && l.all (soundD n) else nameB c && rightR vk vn vs && (decide (k ≠ 10) || decide (vk = 2)):=rfl
theorem condD_s (n:Nat) (k:Int) (c:Str) (vk vn:Int) (vs:Str) (l:List DV) (p:Int):condD (n + 1) (.agg [.int .i64 k,.str c,.int .i64 vk,.int .i64 vn,.str vs,.slc 7 l,.int .i64 p]) =
    (l.all (condD n) && (if k ≤ 3 then decide (c = []) && (decide (vk = 0) && (decide (vn = 0) && decide (vs = []))) else nameB c && rightR vk vn vs && (decide (k ≠ 10) || decide (vk = 2)))):=rfl
def T83_0 (B kk:Nat) (st:St):Tr (Ex × St) :=
  bif shape 53 [1,2,5,6,7] st.slots then
    match gt .undef st.slots 1,gt .undef st.slots 2,gt .undef st.slots 5,gt .undef st.slots 6,gt .undef st.slots 7,st.heap with
    | .d (.int .i64 a),.ptr 0 0,.d (.int .i64 want),.d (.int .i64 n),.d (.int .i64 i),[.cells [.d (.int .i64 k),.d (.str c),.d (.int .i64 vk),.d (.int .i64 vn),.d (.str vs),.d (.slc 7 l),.d (.int .i64 p)]] =>
      .chk (decide (want = l.length) && decide (l.length ≤ big) && decide (B ≤ big) && decide (l.all (okC B kk) = true) && decide (1 ≤ a) && decide (a ≤ 1000) && decide (0 ≤ i) && decide (i ≤ l.length) && decide (0 ≤ n)) (.cnd (nzL (dep (a - 1).toNat) (l.drop i.toNat)) (.ok (.exit 1,⟨slots 53 [(6,.d (.int .i64 (maxL (dep (a - 1).toNat) (l.drop i.toNat) n)))],[.cells [.d (.int .i64 k),.d (.str c),.d (.int .i64 vk),.d (.int .i64 vn),.d (.str vs),.d (.slc 7 l),.d (.int .i64 p)]]⟩)) (.ok (.ret,⟨slots 53 [(4,.d (.int .i64 0)),(6,.d (.int .i64 (maxL (dep (a - 1).toNat) (l.drop i.toNat) n)))],[.cells [.d (.int .i64 k),.d (.str c),.d (.int .i64 vk),.d (.int .i64 vn),.d (.str vs),.d (.slc 7 l),.d (.int .i64 p)]]⟩)))
    | _,_,_,_,_,_ => .no
  else .no
def L83 (B kk:Nat):Lps:=fun i => bif Nat.beq i 20 then some (allBut 53 [1,2,5,6,7],allBut 53 [4,6],T83_0 B kk) else none
def T241_0 (B kk:Nat) (st:St):Tr (Ex × St) :=
  bif shape 19 [0,1,7,8] st.slots then
    match gt .undef st.slots 0,gt .undef st.slots 1,gt .undef st.slots 7,gt .undef st.slots 8,st.heap with
    | .d (.slc 7 l),.func 206 [],.d (.int .i64 n),.d (.int .i64 i),[] =>
      .chk (decide (n = l.length) && decide (l.length ≤ big) && decide (B ≤ big) && decide (l.all (okC B kk) = true) && decide (0 ≤ i) && decide (i ≤ l.length)) (.cnd (decide (0 ≤ idxP (fun x => !soundD kk x) (l.drop i.toNat) i)) (.ok (.ret,⟨slots 19 [(4,.d (.int .i64 (idxP (fun x => !soundD kk x) (l.drop i.toNat) i)))],[]⟩)) (.ok (.exit 0,⟨slots 19 [],[]⟩)))
    | _,_,_,_,_ => .no
  else .no
def L241 (B kk:Nat):Lps:=fun i => bif Nat.beq i 2 then some (allBut 19 [0,1,7,8],allBut 19 [4],T241_0 B kk) else none
def T193_0 (B kk:Nat) (st:St):Tr (Ex × St) :=
  bif shape 49 [1,3] st.slots then
    match gt .undef st.slots 1,gt .undef st.slots 3,st.heap with
    | .ptr 0 0,.d (.int .i64 i),[.cells [.d (.int .i64 k),.d (.str c),.d (.int .i64 vk),.d (.int .i64 vn),.d (.str vs),.d (.slc 7 l),.d (.int .i64 p)]] =>
      .chk (decide (l.length ≤ big) && decide (B ≤ big) && decide (l.all (okC B kk) = true) && decide (0 ≤ i) && decide (i ≤ l.length)) (.cnd ((l.drop i.toNat).all (condD kk)) (.ok (.exit 0,⟨slots 49 [(1,.ptr 0 0)],[.cells [.d (.int .i64 k),.d (.str c),.d (.int .i64 vk),.d (.int .i64 vn),.d (.str vs),.d (.slc 7 l),.d (.int .i64 p)]]⟩)) (.ok (.ret,⟨slots 49 [(1,.ptr 0 0),(2,.d (.bool false))],[.cells [.d (.int .i64 k),.d (.str c),.d (.int .i64 vk),.d (.int .i64 vn),.d (.str vs),.d (.slc 7 l),.d (.int .i64 p)]]⟩)))
    | _,_,_ => .no
  else .no
def L193 (B kk:Nat):Lps:=fun i => bif Nat.beq i 2 then some (allBut 49 [1,3],allBut 49 [1,2],T193_0 B kk) else none
end Go.PS
end

section
namespace Go.PS
open Go.Proofs
set_option maxRecDepth 100000
theorem round83_0 (F:Nat) {R:Type} (B kk:Nat) (a want n i:Int) (k:Int) (c:Str) (vk vn:Int) (vs:Str) (l:List DV) (p:Int) (K:Ex → St → Option
 R) (G:St → Option R):roundK (pcodeK (ctx F [(83,.pure (S82 B kk))]) noL (lp Tryz.f83 0)) 1 (allBut 53 [1,2,5,6,7] ++ temps (lp Tryz.f83 0)) (allBut 53
 [4,6]) ⟨slots 53 [(1,.d (.int .i64 a)),(2,.ptr 0 0),(5,.d (.int .i64 want)),(6,.d (.int .i64 n)),(7,.d (.int .i64 i))],[.cells [.d (.int .i64 k),.d
 (.str c),.d (.int .i64 vk),.d (.int .i64 vn),.d (.str vs),.d (.slc 7 l),.d (.int .i64 p)]]⟩ K G = Tr.run (.cnd (decide (i < want)) (.chk (decide (0 ≤ i))
 (.chk (decide (i.toNat < l.length)) (.chk (fits [.int .i64 0,.str [],.int .i64 0,.int .i64 0,.str [],.nils 7,.int .i64 0] (gt DV.nili l i.toNat).cells)
 (.chk (okC B kk (DV.agg [view l i.toNat 0 (.int .i64 0),view l i.toNat (0 + 1) (.str []),view l i.toNat (0 + 1 + 1) (.int .i64 0),view l i.toNat (0 + 1 + 1 +
 1) (.int .i64 0),view l i.toNat (0 + 1 + 1 + 1 + 1) (.str []),view l i.toNat (0 + 1 + 1 + 1 + 1 + 1) (.nils 7),view l i.toNat (0 + 1 + 1 + 1 + 1 + 1 + 1)
 (.int .i64 0)]) && decide (IntKind.i64.wrap (a - 1) ≤ 1000) && decide (B ≤ big)) (.cnd (decide (dep (IntKind.i64.wrap (a - 1)).toNat (DV.agg [view l i.toNat 0
 (.int .i64 0),view l i.toNat (0 + 1) (.str []),view l i.toNat (0 + 1 + 1) (.int .i64 0),view l i.toNat (0 + 1 + 1 + 1) (.int .i64 0),view l i.toNat (0 + 1 +
 1 + 1 + 1) (.str []),view l i.toNat (0 + 1 + 1 + 1 + 1 + 1) (.nils 7),view l i.toNat (0 + 1 + 1 + 1 + 1 + 1 + 1) (.int .i64 0)]) = 0)) (.ok (.inl (Ex.ret,
 ⟨slots 53 [(4,.d (.int .i64 (0))),(6,.d (.int .i64 n))],[PObj.cells [.d (.int .i64 k),.d (.str c),.d (.int .i64 vk),.d (.int .i64 vn),.d (.str vs),.d
 (.slc 7 l),.d (.int .i64 p)]]⟩))) (.ok (.inr ⟨slots 53 [(1,.d (.int .i64 a)),(2,PV.ptr 0 0),(5,.d (.int .i64 want)),(6,.d (.int .i64 (max n (dep
 (IntKind.i64.wrap (a - 1)).toNat (DV.agg [view l i.toNat 0 (.int .i64 0),view l i.toNat (0 + 1) (.str []),view l i.toNat (0 + 1 + 1) (.int .i64 0),view l
 i.toNat (0 + 1 + 1 + 1) (.int .i64 0),view l i.toNat (0 + 1 + 1 + 1 + 1) (.str []),view l i.toNat (0 + 1 + 1 + 1 + 1 + 1) (.nils 7),view l i.toNat (0 + 1 + 1
 + 1 + 1 + 1 + 1) (.int .i64 0)]))))),(7,.d (.int .i64 (IntKind.i64.wrap (i + 1))))],[PObj.cells [.d (.int .i64 k),.d (.str c),.d (.int .i64 vk),.d (.int
 .i64 vn),.d (.str vs),.d (.slc 7 l),.d (.int .i64 p)]]⟩))))))) (.ok (.inl (Ex.exit 1,⟨slots 53 [(6,.d (.int .i64 n))],[PObj.cells [.d (.int .i64 k),.d
 (.str c),.d (.int .i64 vk),.d (.int .i64 vn),.d (.str vs),.d (.slc 7 l),.d (.int .i64 p)]]⟩)))) (rnd K G):=by kernel_rfl
theorem fn83:FnOk Tryz.prog 83 53 [.tmp 4] (body Tryz.f83):=⟨Tryz.f83,Tryz.func83,bodySome _ (by kernel_rfl),by kernel_rfl,by kernel_rfl,by kernel_rfl,by kernel_rfl⟩
theorem run83 (F:Nat) (B kk:Nat) (k:Int) (c:Str) (vk vn:Int) (vs:Str) (l:List DV) (p:Int) (a:Int):runP (ctx F [(83,.pure (S82 B kk))]) (L83
 B kk) 53 [.tmp 4] (body Tryz.f83) [.d (.agg [.int .i64 k,.str c,.int .i64 vk,.int .i64 vn,.str vs,.slc 7 l,.int .i64 p]),.d (.int .i64 a)] = Tr.val (.cnd
 (decide (k = 1)) (.cnd (decide (a < 1)) (.ok (PV.d (.int .i64 (0)))) (.cnd (!decide ((↑l.length:Int) = 2)) (.ok (PV.d (.int .i64 (0)))) (.chk (decide (2 =
 (↑l.length:Int)) && decide (l.length ≤ big) && decide (B ≤ big) && decide (l.all (okC B kk) = true) && decide (1 ≤ a) && decide (a ≤ 1000) && decide (0 ≤ 0) &&
 decide (0 ≤ (↑l.length:Int)) && decide (0 ≤ 0)) (.cnd (nzL (dep (a - 1).toNat) (List.drop (Int.toNat 0) l)) (.ok (PV.d (.int .i64 (IntKind.i64.wrap (maxL (dep
 (a - 1).toNat) (List.drop (Int.toNat 0) l) 0 + 1))))) (.ok (PV.d (.int .i64 (0)))))))) (.cnd (decide (k = 2)) (.cnd (decide (a < 1)) (.ok (PV.d (.int .i64 (0))))
 (.cnd (!decide ((↑l.length:Int) = 2)) (.ok (PV.d (.int .i64 (0)))) (.chk (decide (2 = (↑l.length:Int)) && decide (l.length ≤ big) && decide (B ≤ big) &&
 decide (l.all (okC B kk) = true) && decide (1 ≤ a) && decide (a ≤ 1000) && decide (0 ≤ 0) && decide (0 ≤ (↑l.length:Int)) && decide (0 ≤ 0)) (.cnd (nzL (dep (a
 - 1).toNat) (List.drop (Int.toNat 0) l)) (.ok (PV.d (.int .i64 (IntKind.i64.wrap (maxL (dep (a - 1).toNat) (List.drop (Int.toNat 0) l) 0 + 1))))) (.ok (PV.d
 (.int .i64 (0)))))))) (.cnd (decide (k = 3)) (.cnd (decide (a < 1)) (.ok (PV.d (.int .i64 (0)))) (.cnd (!decide ((↑l.length:Int) = 1)) (.ok (PV.d (.int .i64
 (0)))) (.chk (decide (1 = (↑l.length:Int)) && decide (l.length ≤ big) && decide (B ≤ big) && decide (l.all (okC B kk) = true) && decide (1 ≤ a) && decide (a ≤
 1000) && decide (0 ≤ 0) && decide (0 ≤ (↑l.length:Int)) && decide (0 ≤ 0)) (.cnd (nzL (dep (a - 1).toNat) (List.drop (Int.toNat 0) l)) (.ok (PV.d (.int .i64
 (IntKind.i64.wrap (maxL (dep (a - 1).toNat) (List.drop (Int.toNat 0) l) 0 + 1))))) (.ok (PV.d (.int .i64 (0)))))))) (.cnd (decide (k = 4)) (.cnd (decide (a < 1))
 (.ok (PV.d (.int .i64 (0)))) (.cnd (!decide ((↑l.length:Int) = 0)) (.ok (PV.d (.int .i64 (0)))) (.chk (decide (0 = (↑l.length:Int)) && decide (l.length ≤
 big) && decide (B ≤ big) && decide (l.all (okC B kk) = true) && decide (1 ≤ a) && decide (a ≤ 1000) && decide (0 ≤ 0) && decide (0 ≤ (↑l.length:Int)) && decide
 (0 ≤ 0)) (.cnd (nzL (dep (a - 1).toNat) (List.drop (Int.toNat 0) l)) (.ok (PV.d (.int .i64 (IntKind.i64.wrap (maxL (dep (a - 1).toNat) (List.drop (Int.toNat 0)
 l) 0 + 1))))) (.ok (PV.d (.int .i64 (0)))))))) (.cnd (decide (k = 5)) (.cnd (decide (a < 1)) (.ok (PV.d (.int .i64 (0)))) (.cnd (!decide ((↑l.length:Int) = 0))
 (.ok (PV.d (.int .i64 (0)))) (.chk (decide (0 = (↑l.length:Int)) && decide (l.length ≤ big) && decide (B ≤ big) && decide (l.all (okC B kk) = true) && decide
 (1 ≤ a) && decide (a ≤ 1000) && decide (0 ≤ 0) && decide (0 ≤ (↑l.length:Int)) && decide (0 ≤ 0)) (.cnd (nzL (dep (a - 1).toNat) (List.drop (Int.toNat 0) l))
 (.ok (PV.d (.int .i64 (IntKind.i64.wrap (maxL (dep (a - 1).toNat) (List.drop (Int.toNat 0) l) 0 + 1))))) (.ok (PV.d (.int .i64 (0)))))))) (.cnd (decide (k = 6))
 (.cnd (decide (a < 1)) (.ok (PV.d (.int .i64 (0)))) (.cnd (!decide ((↑l.length:Int) = 0)) (.ok (PV.d (.int .i64 (0)))) (.chk (decide (0 = (↑l.length:Int)) &&
 decide (l.length ≤ big) && decide (B ≤ big) && decide (l.all (okC B kk) = true) && decide (1 ≤ a) && decide (a ≤ 1000) && decide (0 ≤ 0) && decide (0 ≤
 (↑l.length:Int)) && decide (0 ≤ 0)) (.cnd (nzL (dep (a - 1).toNat) (List.drop (Int.toNat 0) l)) (.ok (PV.d (.int .i64 (IntKind.i64.wrap (maxL (dep (a -
 1).toNat) (List.drop (Int.toNat 0) l) 0 + 1))))) (.ok (PV.d (.int .i64 (0)))))))) (.cnd (decide (k = 7)) (.cnd (decide (a < 1)) (.ok (PV.d (.int .i64 (0))))
 (.cnd (!decide ((↑l.length:Int) = 0)) (.ok (PV.d (.int .i64 (0)))) (.chk (decide (0 = (↑l.length:Int)) && decide (l.length ≤ big) && decide (B ≤ big) &&
 decide (l.all (okC B kk) = true) && decide (1 ≤ a) && decide (a ≤ 1000) && decide (0 ≤ 0) && decide (0 ≤ (↑l.length:Int)) && decide (0 ≤ 0)) (.cnd (nzL (dep (a
 - 1).toNat) (List.drop (Int.toNat 0) l)) (.ok (PV.d (.int .i64 (IntKind.i64.wrap (maxL (dep (a - 1).toNat) (List.drop (Int.toNat 0) l) 0 + 1))))) (.ok (PV.d
 (.int .i64 (0)))))))) (.cnd (decide (k = 8)) (.cnd (decide (a < 1)) (.ok (PV.d (.int .i64 (0)))) (.cnd (!decide ((↑l.length:Int) = 0)) (.ok (PV.d (.int .i64
 (0)))) (.chk (decide (0 = (↑l.length:Int)) && decide (l.length ≤ big) && decide (B ≤ big) && decide (l.all (okC B kk) = true) && decide (1 ≤ a) && decide (a ≤
 1000) && decide (0 ≤ 0) && decide (0 ≤ (↑l.length:Int)) && decide (0 ≤ 0)) (.cnd (nzL (dep (a - 1).toNat) (List.drop (Int.toNat 0) l)) (.ok (PV.d (.int .i64
 (IntKind.i64.wrap (maxL (dep (a - 1).toNat) (List.drop (Int.toNat 0) l) 0 + 1))))) (.ok (PV.d (.int .i64 (0)))))))) (.cnd (decide (k = 9)) (.cnd (decide (a < 1))
 (.ok (PV.d (.int .i64 (0)))) (.cnd (!decide ((↑l.length:Int) = 0)) (.ok (PV.d (.int .i64 (0)))) (.chk (decide (0 = (↑l.length:Int)) && decide (l.length ≤
 big) && decide (B ≤ big) && decide (l.all (okC B kk) = true) && decide (1 ≤ a) && decide (a ≤ 1000) && decide (0 ≤ 0) && decide (0 ≤ (↑l.length:Int)) && decide
 (0 ≤ 0)) (.cnd (nzL (dep (a - 1).toNat) (List.drop (Int.toNat 0) l)) (.ok (PV.d (.int .i64 (IntKind.i64.wrap (maxL (dep (a - 1).toNat) (List.drop (Int.toNat 0)
 l) 0 + 1))))) (.ok (PV.d (.int .i64 (0)))))))) (.cnd (decide (k = 10)) (.cnd (decide (a < 1)) (.ok (PV.d (.int .i64 (0)))) (.cnd (!decide ((↑l.length:Int) =
 0)) (.ok (PV.d (.int .i64 (0)))) (.chk (decide (0 = (↑l.length:Int)) && decide (l.length ≤ big) && decide (B ≤ big) && decide (l.all (okC B kk) = true) &&
 decide (1 ≤ a) && decide (a ≤ 1000) && decide (0 ≤ 0) && decide (0 ≤ (↑l.length:Int)) && decide (0 ≤ 0)) (.cnd (nzL (dep (a - 1).toNat) (List.drop (Int.toNat
 0) l)) (.ok (PV.d (.int .i64 (IntKind.i64.wrap (maxL (dep (a - 1).toNat) (List.drop (Int.toNat 0) l) 0 + 1))))) (.ok (PV.d (.int .i64 (0)))))))) (.ok (PV.d (.int
 .i64 (0)))))))))))))):=by kernel_rfl
theorem fn33:FnOk Tryz.prog 33 5 [.tmp 2] (body Tryz.f33):=⟨Tryz.f33,Tryz.func33,bodySome _ (by kernel_rfl),by kernel_rfl,by kernel_rfl,by kernel_rfl,by kernel_rfl⟩
theorem run33 (F:Nat) (B kk:Nat) (k:Int) (c:Str) (vk vn:Int) (vs:Str) (l:List DV) (p:Int):runP (ctx F [(82,.pure (S82 B kk))]) noL 5 [.tmp 2]
 (body Tryz.f33) [.d (.agg [.int .i64 k,.str c,.int .i64 vk,.int .i64 vn,.str vs,.slc 7 l,.int .i64 p])] = Tr.val (.chk (okC B kk (DV.agg [.int .i64 k,.str
 c,.int .i64 vk,.int .i64 vn,.str vs,.slc 7 l,.int .i64 p]) && decide (16 ≤ 1000) && decide (B ≤ big)) (.ok (PV.d (.int .i64 (dep (Int.toNat 16) (DV.agg
 [.int .i64 k,.str c,.int .i64 vk,.int .i64 vn,.str vs,.slc 7 l,.int .i64 p])))))):=by kernel_rfl
theorem fn34:FnOk Tryz.prog 34 5 [.tmp 2] (body Tryz.f34):=⟨Tryz.f34,Tryz.func34,bodySome _ (by kernel_rfl),by kernel_rfl,by kernel_rfl,by kernel_rfl,by kernel_rfl⟩
theorem run34 (F:Nat) (B kk:Nat) (k:Int) (c:Str) (vk vn:Int) (vs:Str) (l:List DV) (p:Int):runP (ctx F [(83,.pure (S82 B kk))]) noL 5 [.tmp 2]
 (body Tryz.f34) [.d (.agg [.int .i64 k,.str c,.int .i64 vk,.int .i64 vn,.str vs,.slc 7 l,.int .i64 p])] = Tr.val (.chk (okC B kk (DV.agg [.int .i64 k,.str
 c,.int .i64 vk,.int .i64 vn,.str vs,.slc 7 l,.int .i64 p]) && decide (16 ≤ 1000) && decide (B ≤ big)) (.ok (PV.d (.int .i64 (dep (Int.toNat 16) (DV.agg
 [.int .i64 k,.str c,.int .i64 vk,.int .i64 vn,.str vs,.slc 7 l,.int .i64 p])))))):=by kernel_rfl
theorem fn206:FnOk Tryz.prog 206 6 [.tmp 2] (body Tryz.f206):=⟨Tryz.f206,Tryz.func206,bodySome _ (by kernel_rfl),by kernel_rfl,by kernel_rfl,by kernel_rfl,by kernel_rfl⟩
theorem run206 (F:Nat) (B kk:Nat) (k:Int) (c:Str) (vk vn:Int) (vs:Str) (l:List DV) (p:Int):runP (ctx F [(147,.pure (S147 B kk))]) noL 6 [.tmp
 2] (body Tryz.f206) [.d (.agg [.int .i64 k,.str c,.int .i64 vk,.int .i64 vn,.str vs,.slc 7 l,.int .i64 p])] = Tr.val (.chk (okC B kk (DV.agg [.int .i64 k,
 .str c,.int .i64 vk,.int .i64 vn,.str vs,.slc 7 l,.int .i64 p]) && decide (B ≤ big)) (.ok (PV.d (.bool !soundD kk (DV.agg [.int .i64 k,.str c,.int .i64
 vk,.int .i64 vn,.str vs,.slc 7 l,.int .i64 p]))))):=by kernel_rfl
theorem round241_0 (F:Nat) {R:Type} (B kk:Nat) (l:List DV) (n i:Int) (K:Ex → St → Option R) (G:St → Option R):roundK (pcodeK (ctx F [(206,.pure
 (S206 B kk))]) noL (lp Tryz.f241 0)) 0 (allBut 19 [0,1,7,8] ++ temps (lp Tryz.f241 0)) (allBut 19 [4]) ⟨slots 19 [(0,.d (.slc 7 l)),(1,.func 206 []),(7,
 .d (.int .i64 n)),(8,.d (.int .i64 i))],[]⟩ K G = Tr.run (.cnd (decide (i < n)) (.chk (decide (0 ≤ i)) (.chk (decide (i.toNat < l.length)) (.chk (fits [.int
 .i64 0,.str [],.int .i64 0,.int .i64 0,.str [],.nils 7,.int .i64 0] (gt DV.nili l i.toNat).cells) (.chk (okC B kk (DV.agg [view l i.toNat 0 (.int .i64 0),
 view l i.toNat (0 + 1) (.str []),view l i.toNat (0 + 1 + 1) (.int .i64 0),view l i.toNat (0 + 1 + 1 + 1) (.int .i64 0),view l i.toNat (0 + 1 + 1 + 1 + 1)
 (.str []),view l i.toNat (0 + 1 + 1 + 1 + 1 + 1) (.nils 7),view l i.toNat (0 + 1 + 1 + 1 + 1 + 1 + 1) (.int .i64 0)]) && decide (B ≤ big)) (.cnd (!soundD kk
 (DV.agg [view l i.toNat 0 (.int .i64 0),view l i.toNat (0 + 1) (.str []),view l i.toNat (0 + 1 + 1) (.int .i64 0),view l i.toNat (0 + 1 + 1 + 1) (.int .i64
 0),view l i.toNat (0 + 1 + 1 + 1 + 1) (.str []),view l i.toNat (0 + 1 + 1 + 1 + 1 + 1) (.nils 7),view l i.toNat (0 + 1 + 1 + 1 + 1 + 1 + 1) (.int .i64 0)]))
 (.ok (.inl (Ex.ret,⟨slots 19 [(4,.d (.int .i64 i))],[]⟩))) (.ok (.inr ⟨slots 19 [(0,.d (.slc 7 l)),(1,PV.func 206 []),(7,.d (.int .i64 n)),(8,.d (.int
 .i64 (IntKind.i64.wrap (i + 1))))],[]⟩))))))) (.ok (.inl (Ex.exit 0,⟨slots 19 [],[]⟩)))) (rnd K G):=by kernel_rfl
theorem fn241:FnOk Tryz.prog 241 19 [.tmp 4] (body Tryz.f241):=⟨Tryz.f241,Tryz.func241,bodySome _ (by kernel_rfl),by kernel_rfl,by kernel_rfl,by kernel_rfl,by kernel_rfl⟩
theorem run241 (F:Nat) (B kk:Nat) (l:List DV):runP (ctx F [(206,.pure (S206 B kk))]) (L241 B kk) 19 [.tmp 4] (body Tryz.f241) [.d (.slc 7 l),.func 206
 []] = Tr.val (.chk (decide ((↑l.length:Int) = (↑l.length:Int)) && decide (l.length ≤ big) && decide (B ≤ big) && decide (l.all (okC B kk) = true) && decide
 (0 ≤ 0) && decide (0 ≤ (↑l.length:Int))) (.cnd (decide (0 ≤ idxP (fun x ↦ !soundD kk x) (List.drop (Int.toNat 0) l) 0)) (.ok (PV.d (.int .i64 (idxP (fun x ↦
 !soundD kk x) (List.drop (Int.toNat 0) l) 0)))) (.ok (PV.d (.int .i64 (Int.negSucc 0)))))):=by kernel_rfl
theorem fn205:FnOk Tryz.prog 205 9 [.tmp 4] (body Tryz.f205):=⟨Tryz.f205,Tryz.func205,bodySome _ (by kernel_rfl),by kernel_rfl,by kernel_rfl,by kernel_rfl,by kernel_rfl⟩
theorem run205 (F:Nat) (B kk:Nat) (l:List DV):runP (ctx F [(241,.pure (S241 B kk))]) noL 9 [.tmp 4] (body Tryz.f205) [.d (.slc 7 l),.func 206 []] =
 Tr.val (.chk (l.all (okC B kk) && decide (l.length ≤ big) && decide (B ≤ big)) (.ok (PV.d (.bool (decide (idxP (fun x ↦ !soundD kk x) l 0 ≥ 0)))))):=by
 kernel_rfl
theorem fn147:FnOk Tryz.prog 147 42 [.tmp 2] (body Tryz.f147):=⟨Tryz.f147,Tryz.func147,bodySome _ (by kernel_rfl),by kernel_rfl,by kernel_rfl,by kernel_rfl,by kernel_rfl⟩
theorem run147 (F:Nat) (B kk:Nat) (k:Int) (c:Str) (vk vn:Int) (vs:Str) (l:List DV) (p:Int):runP (ctx F [(35,.pure S35),(145,.pure S145u),
 (205,.pure (S205 B kk))]) noL 42 [.tmp 2] (body Tryz.f147) [.d (.agg [.int .i64 k,.str c,.int .i64 vk,.int .i64 vn,.str vs,.slc 7 l,.int .i64 p])] =
 Tr.val (.cnd (decide ((↑l.length:Int) > 0)) (.cnd (decide (c = ([]:List UInt8))) (.cnd (decide (vk = 0) && (decide (vn = 0) && (decide (vs = []) && true)))
 (.chk (l.all (okC B kk) && decide (l.length ≤ big) && decide (B ≤ big)) (.ok (PV.d (.bool !l.any fun x ↦ !soundD kk x)))) (.ok (PV.d (.bool false)))) (.ok (PV.d
 (.bool false)))) (.chk (decide (List.length c ≤ big)) (.cnd (nameB c) (.chk (decide (List.length vs ≤ big)) (.cnd (decide (rightE vk vn vs = 0)) (.cnd (!decide
 (k = 10)) (.ok (PV.d (.bool true))) (.ok (PV.d (.bool (decide (vk = 2)))))) (.ok (PV.d (.bool false))))) (.ok (PV.d (.bool false)))))):=by kernel_rfl
theorem round193_0 (F:Nat) {R:Type} (B kk:Nat) (i:Int) (k:Int) (c:Str) (vk vn:Int) (vs:Str) (l:List DV) (p:Int) (K:Ex → St → Option R) (G :
 St → Option R):roundK (pcodeK (ctx F [(36,.pure S35),(154,.pure S154),(193,.pure (S193 B kk))]) noL (lp Tryz.f193 0)) 1 (allBut 49 [1,3] ++ temps (lp
 Tryz.f193 0)) (allBut 49 [1,2]) ⟨slots 49 [(1,.ptr 0 0),(3,.d (.int .i64 i))],[.cells [.d (.int .i64 k),.d (.str c),.d (.int .i64 vk),.d (.int .i64 vn),
 .d (.str vs),.d (.slc 7 l),.d (.int .i64 p)]]⟩ K G = Tr.run (.cnd (decide (i < (↑l.length:Int))) (.chk (decide (0 ≤ i)) (.chk (decide (i.toNat < l.length))
 (.chk (fits [.int .i64 0,.str [],.int .i64 0,.int .i64 0,.str [],.nils 7,.int .i64 0] (gt DV.nili l i.toNat).cells) (.chk (okC B kk (DV.agg [view l i.toNat
 0 (.int .i64 0),view l i.toNat (0 + 1) (.str []),view l i.toNat (0 + 1 + 1) (.int .i64 0),view l i.toNat (0 + 1 + 1 + 1) (.int .i64 0),view l i.toNat (0 + 1
 + 1 + 1 + 1) (.str []),view l i.toNat (0 + 1 + 1 + 1 + 1 + 1) (.nils 7),view l i.toNat (0 + 1 + 1 + 1 + 1 + 1 + 1) (.int .i64 0)]) && decide (B ≤ big)) (.cnd
 (!condD kk (DV.agg [view l i.toNat 0 (.int .i64 0),view l i.toNat (0 + 1) (.str []),view l i.toNat (0 + 1 + 1) (.int .i64 0),view l i.toNat (0 + 1 + 1 + 1)
 (.int .i64 0),view l i.toNat (0 + 1 + 1 + 1 + 1) (.str []),view l i.toNat (0 + 1 + 1 + 1 + 1 + 1) (.nils 7),view l i.toNat (0 + 1 + 1 + 1 + 1 + 1 + 1) (.int
 .i64 0)])) (.ok (.inl (Ex.ret,⟨slots 49 [(1,PV.ptr 0 0),(2,.d (.bool false))],[PObj.cells [.d (.int .i64 k),.d (.str c),.d (.int .i64 vk),.d (.int .i64
 vn),.d (.str vs),.d (.slc 7 l),.d (.int .i64 p)]]⟩))) (.ok (.inr ⟨slots 49 [(1,PV.ptr 0 0),(3,.d (.int .i64 (IntKind.i64.wrap (i + 1))))],[PObj.cells [.d
 (.int .i64 k),.d (.str c),.d (.int .i64 vk),.d (.int .i64 vn),.d (.str vs),.d (.slc 7 l),.d (.int .i64 p)]]⟩))))))) (.ok (.inl (Ex.exit 0,⟨slots 49 [(1,
 PV.ptr 0 0)],[PObj.cells [.d (.int .i64 k),.d (.str c),.d (.int .i64 vk),.d (.int .i64 vn),.d (.str vs),.d (.slc 7 l),.d (.int .i64 p)]]⟩)))) (rnd K G) :=
 by kernel_rfl
theorem fn193:FnOk Tryz.prog 193 49 [.tmp 2] (body Tryz.f193):=⟨Tryz.f193,Tryz.func193,bodySome _ (by kernel_rfl),by kernel_rfl,by kernel_rfl,by kernel_rfl,by kernel_rfl⟩
theorem run193 (F:Nat) (B kk:Nat) (k:Int) (c:Str) (vk vn:Int) (vs:Str) (l:List DV) (p:Int):runP (ctx F [(36,.pure S35),(154,.pure S154),
 (193,.pure (S193 B kk))]) (L193 B kk) 49 [.tmp 2] (body Tryz.f193) [.d (.agg [.int .i64 k,.str c,.int .i64 vk,.int .i64 vn,.str vs,.slc 7 l,.int .i64 p])]
 = Tr.val (.chk (decide (l.length ≤ big) && decide (B ≤ big) && decide (l.all (okC B kk) = true) && decide (0 ≤ 0) && decide (0 ≤ (↑l.length:Int))) (.cnd
 ((List.drop (Int.toNat 0) l).all (condD kk)) (.cnd (decide (k ≤ 3)) (.cnd (decide (c = ([]:List UInt8))) (.ok (PV.d (.bool (decide (vk = 0) && (decide (vn = 0)
 && (decide (vs = []) && true)))))) (.ok (PV.d (.bool false)))) (.chk (decide (List.length c ≤ big)) (.cnd (nameB c) (.chk (decide (List.length vs ≤ big)) (.cnd
 (rightR vk vn vs) (.cnd (!decide (k = 10)) (.ok (PV.d (.bool true))) (.ok (PV.d (.bool (decide (vk = 2)))))) (.ok (PV.d (.bool false))))) (.ok (PV.d (.bool
 false)))))) (.ok (PV.d (.bool false))))):=by kernel_rfl
theorem fn144:FnOk Tryz.prog 144 36 [.tmp 2] (body Tryz.f144):=⟨Tryz.f144,Tryz.func144,bodySome _ (by kernel_rfl),by kernel_rfl,by kernel_rfl,by kernel_rfl,by kernel_rfl⟩
theorem run144 (F:Nat) (b:Str) (c:Int) (a:Bool) (t p:Int):runP (ctx F [(35,.pure S35)]) noL 36 [.tmp 2] (body Tryz.f144) [.d (.agg [.str b,.int
 .i64 c,.bool a,.int .i64 t,.int .i64 p])] = Tr.val (.cnd (decide (b = ([]:List UInt8))) (.cnd (decide (c > 0)) (.cnd (!a) (.ok (PV.d (.bool (decide (t =
 0))))) (.ok (PV.d (.bool false)))) (.ok (PV.d (.bool false)))) (.cnd (decide (c = 0)) (.chk (decide (List.length b ≤ big)) (.cnd (nameB b) (.cnd (a) (.ok (PV.d
 (.bool true))) (.ok (PV.d (.bool (decide (t = 0)))))) (.ok (PV.d (.bool false))))) (.ok (PV.d (.bool false))))):=by kernel_rfl
theorem fn197:FnOk Tryz.prog 197 36 [.tmp 2] (body Tryz.f197):=⟨Tryz.f197,Tryz.func197,bodySome _ (by kernel_rfl),by kernel_rfl,by kernel_rfl,by kernel_rfl,by kernel_rfl⟩
theorem run197 (F:Nat) (b:Str) (c:Int) (a:Bool) (t p:Int):runP (ctx F [(36,.pure S35)]) noL 36 [.tmp 2] (body Tryz.f197) [.d (.agg [.str b,.int
 .i64 c,.bool a,.int .i64 t,.int .i64 p])] = Tr.val (.cnd (decide (b = ([]:List UInt8))) (.cnd (decide (c ≥ 1)) (.cnd (!a) (.ok (PV.d (.bool (decide (t =
 0))))) (.ok (PV.d (.bool false)))) (.ok (PV.d (.bool false)))) (.chk (decide (List.length b ≤ big)) (.cnd (nameB b) (.cnd (decide (c = 0)) (.cnd (a) (.ok (PV.d
 (.bool true))) (.ok (PV.d (.bool (decide (t = 0)))))) (.ok (PV.d (.bool false)))) (.ok (PV.d (.bool false)))))):=by kernel_rfl
theorem fn196:FnOk Tryz.prog 196 21 [.tmp 2] (body Tryz.f196):=⟨Tryz.f196,Tryz.func196,bodySome _ (by kernel_rfl),by kernel_rfl,by kernel_rfl,by kernel_rfl,by kernel_rfl⟩
theorem run196 (F:Nat) (b:Str) (c:Int) (a:Bool) (t p:Int):runP (ctx F []) noL 21 [.tmp 2] (body Tryz.f196) [.d (.agg [.str b,.int .i64 c,.bool a,
 .int .i64 t,.int .i64 p])] = Tr.val (.cnd (decide (b = ([]:List UInt8))) (.cnd (decide (c = 0)) (.cnd (!a) (.ok (PV.d (.bool (decide (t = 0))))) (.ok (PV.d
 (.bool false)))) (.ok (PV.d (.bool false)))) (.ok (PV.d (.bool false)))):=by kernel_rfl
theorem fn194:FnOk Tryz.prog 194 23 [.tmp 2] (body Tryz.f194):=⟨Tryz.f194,Tryz.func194,bodySome _ (by kernel_rfl),by kernel_rfl,by kernel_rfl,by kernel_rfl,by kernel_rfl⟩
theorem run194 (F:Nat) (k:Int) (c:Str) (vk vn:Int) (vs:Str) (l:List DV) (p:Int):runP (ctx F []) noL 23 [.tmp 2] (body Tryz.f194) [.d (.agg [.int
 .i64 k,.str c,.int .i64 vk,.int .i64 vn,.str vs,.slc 7 l,.int .i64 p])] = Tr.val (.cnd (decide (k = 0)) (.cnd (decide (c = ([]:List UInt8))) (.cnd
 (decide (vk = 0) && (decide (vn = 0) && (decide (vs = []) && true))) (.ok (PV.d (.bool (decide ((↑l.length:Int) = 0))))) (.ok (PV.d (.bool false)))) (.ok (PV.d
 (.bool false)))) (.ok (PV.d (.bool false)))):=by kernel_rfl
end Go.PS
end

section
namespace Go.PS
open Go.Proofs
set_option linter.unusedSimpArgs false
theorem loop83_0 (F:Nat) {R:Type} (B:Nat) (kk:Nat) (a:Int) (want:Int) (k:Int) (c:Str) (vk:Int) (vn:Int) (vs:Str) (l:List DV) (p:Int) (K:Ex → St → Option R) (g0:want = l.length) (g1:l.length ≤ big) (g2:B ≤ big) (g3:l.all (okC B kk) = true) (g4:1 ≤ a) (g5:a ≤ 1000) :
    ∀ (m:Nat) (n:Int) (i:Int),0 ≤ i → i ≤ l.length → 0 ≤ n → (l.length - i).toNat < m →
      loopK (pcodeK (ctx F [(83,.pure (S82 B kk))]) noL (lp Tryz.f83 0)) 1 (allBut 53 [1,2,5,6,7] ++ temps (lp Tryz.f83 0)) (allBut 53 [4,6]) m
        ⟨slots 53 [(1,.d (.int .i64 a)),(2,.ptr 0 0),(5,.d (.int .i64 want)),(6,.d (.int .i64 n)),(7,.d (.int .i64 i))],[.cells [.d (.int .i64 k),.d (.str c),.d (.int .i64 vk),.d (.int .i64 vn),.d (.str vs),.d (.slc 7 l),.d (.int .i64 p)]]⟩ K =
      Tr.run (.cnd (nzL (dep (a - 1).toNat) (l.drop i.toNat)) (.ok (.exit 1,⟨slots 53 [(6,.d (.int .i64 (maxL (dep (a - 1).toNat) (l.drop i.toNat) n)))],[.cells [.d (.int .i64 k),.d (.str c),.d (.int .i64 vk),.d (.int .i64 vn),.d (.str vs),.d (.slc 7 l),.d (.int .i64 p)]]⟩)) (.ok (.ret,⟨slots 53 [(4,.d (.int .i64 0)),(6,.d (.int .i64 (maxL (dep (a - 1).toNat) (l.drop i.toNat) n)))],[.cells [.d (.int .i64 k),.d (.str c),.d (.int .i64 vk),.d (.int .i64 vn),.d (.str vs),.d (.slc 7 l),.d (.int .i64 p)]]⟩))) (fun p => K p.1 p.2):=by
  intro m
  induction m with
  | zero => intro n i; intros; omega
  | succ m ih =>
    intro n i h0 h1 h2 hm
    rw [loopK_succ,round83_0]
    unfold big at g1
    have w2:IntKind.i64.wrap (a - 1) = a - 1:=wrap64 (by omega) (by omega)
    simp only [Tr.run,rnd,cnd_i,chk_i,Bool.and_eq_true,decide_eq_true_eq,w2]
    by_cases hi:i < want
    · have w:IntKind.i64.wrap (i + 1) = i + 1:=wrap64 (by omega) (by omega)
      have hx:=all_gt g3 (i:=i) (by omega) (by omega)
      have ht:=okC_fits hx
      have hd:=(dep_le (a - 1).toNat (gt .nili l i.toNat)).1
      rw [okC_view hx]
      have ih1:=ih (max n (dep (a - 1).toNat (gt .nili l i.toNat))) (i + 1)
      simp only [Tr.run,cnd_i] at ih1
      rw [nz_drop (by omega) (by omega),max_drop (by omega) (by omega)]
      clear ih
      rw [ht,hx]
      grind
    · have:l.drop i.toNat = []:=List.drop_of_length_le (by omega)
      rw [this]
      simp [hi,nzL,maxL]
theorem lps83 (F:Nat) (hF:F = FU) (B kk:Nat):LpsOk (ctx F [(83,.pure (S82 B kk))]) (L83 B kk) (loopsOf (body Tryz.f83)):=by
  subst hF
  refine lps_one (c:=lp Tryz.f83 0) rfl (by kernel_rfl) fun R st K r h => ?_
  unfold T83_0 at h
  cases hs:shape 53 [1,2,5,6,7] st.slots with
  | false => rw [hs] at h; simp [Tr.run] at h
  | true =>
  rw [hs] at h
  simp only [cond_true] at h
  have he:=shape_eq hs
  obtain ⟨sl0,H⟩:=st
  dsimp only at h he ⊢
  split at h
  · rename_i a want n i k c vk vn vs l p g0_ g1_ g2_ g3_ g4_
    simp only [List.map_cons,List.map_nil,g0_,g1_,g2_,g3_,g4_] at he
    subst he
    simp only [Tr.run] at h
    cases hc:(decide (want = l.length) && decide (l.length ≤ big) && decide (B ≤ big) && decide (l.all (okC B kk) = true) && decide (1 ≤ a) && decide (a ≤ 1000) && decide (0 ≤ i) && decide (i ≤ l.length) && decide (0 ≤ n)) with
    | false => rw [hc] at h; simp at h
    | true =>
    rw [hc] at h
    simp only [Bool.and_eq_true,decide_eq_true_eq] at hc
    obtain ⟨⟨⟨⟨⟨⟨⟨⟨c0,c1⟩,c2⟩,c3⟩,c4⟩,c5⟩,c6⟩,c7⟩,c8⟩:=hc
    refine (loop83_0 FU B kk a want k c vk vn vs l p K c0 c1 c2 c3 c4 c5 FU n i c6 c7 c8 (by unfold FU; unfold big at *; omega)).trans ?_
    rw [← h]
    rfl
  · simp [Tr.run] at h
theorem ok83s (W0:World) (B kk:Nat) (ih:EKOk Tryz.prog W0 83 (.pure (S82 B kk))):EKOk Tryz.prog W0 83 (.pure (S82 B (kk + 1))):=by
  refine pure_of (tyOk FU [(83,.pure (S82 B kk))]) (look_ok (all_cons ih all_nil)) mixed fn83 (lps83 FU rfl B kk) fun args r h => ?_
  unfold S82 at h
  split at h
  · rename_i v a
    simp only [Tr.val_chk,chk_some,Bool.and_eq_true,decide_eq_true_eq] at h
    obtain ⟨⟨⟨hv,ha⟩,hB⟩,h⟩:=h
    obtain ⟨k,c,vk,vn,vs,l,p,rfl,h1,h2,h3,h4,h5⟩:=okC_inv hv
    refine (run83 FU B kk k c vk vn vs l p a).trans (Eq.trans ?_ h)
    simp only [Tr.val_ok,Tr.val_cnd,Tr.val_chk,cnd_i,chk_i,Bool.and_eq_true,decide_eq_true_eq,List.drop_zero,Int.toNat_zero,Bool.true_and]
    clear h ih hv
    by_cases ha1:a < 1
    · have e:a.toNat = 0:=by omega
      simp [ha1,e,dep]
    · have e:a.toNat = (a - 1).toNat + 1:=by omega
      rw [e]
      have hle:=dep_le ((a - 1).toNat + 1) (.agg [.int .i64 k,.str c,.int .i64 vk,.int .i64 vn,.str vs,.slc 7 l,.int .i64 p])
      unfold dep at hle ⊢
      have e1:cL (.agg [.int .i64 k,.str c,.int .i64 vk,.int .i64 vn,.str vs,.slc 7 l,.int .i64 p]) 5 = l:=rfl
      have e2:cI (.agg [.int .i64 k,.str c,.int .i64 vk,.int .i64 vn,.str vs,.slc 7 l,.int .i64 p]) 0 = k:=rfl
      rw [e1,e2] at hle ⊢
      have hw:((l.length:Int) = sidesI k ∧ nzL (dep (a - 1).toNat) l = true) → IntKind.i64.wrap (maxL (dep (a - 1).toNat) l 0 + 1) = maxL (dep (a - 1).toNat) l 0 + 1:=fun hc => by
        rw [if_pos hc] at hle
        exact wrap64 (by omega) (by omega)
      clear hle
      have hb:l.length ≤ big:=by omega
      have hz:((l.length:Int) = 0) → l = []:=fun hc => List.length_eq_zero_iff.1 (by omega)
      unfold sidesI at *
      have hk:k = 1 ∨ k = 2 ∨ k = 3 ∨ k = 4 ∨ k = 5 ∨ k = 6 ∨ k = 7 ∨ k = 8 ∨ k = 9 ∨ k = 10 ∨ (k < 1 ∨ 10 < k):=by omega
      clear e1 e2 h1 h2 h3 h4
      rcases hk with rfl | rfl | rfl | rfl | rfl | rfl | rfl | rfl | rfl | rfl | hk <;> (try simp only [Int.reduceEq,Int.reduceLE,if_true,if_false,true_or,or_true,or_self,false_or,or_false,true_and,and_true,and_self] at hw ⊢) <;> first | grind | skip
      obtain ⟨q1,q2,q3,q4,q5,q6,q7,q8,q9,q10,q11⟩:k ≠ 1 ∧ k ≠ 2 ∧ k ≠ 3 ∧ k ≠ 4 ∧ k ≠ 5 ∧ k ≠ 6 ∧ k ≠ 7 ∧ k ≠ 8 ∧ k ≠ 9 ∧ k ≠ 10 ∧ ¬ (4 ≤ k ∧ k ≤ 10):=by omega
      simp only [q1,q2,q3,q4,q5,q6,q7,q8,q9,q10,q11,if_false,or_self]
      rw [if_neg (by omega)]
  · simp [Tr.val_no] at h
theorem ok83 (W0:World) (B:Nat):∀ kk,EKOk Tryz.prog W0 83 (.pure (S82 B kk)):=by
  intro kk
  induction kk with
  | zero => exact ek_void W0 fn83 (S82_zero B)
  | succ kk ih => exact ok83s W0 B kk ih
theorem ok33 (W0:World) (B kk:Nat):EKOk Tryz.prog W0 33 (.pure (S33 B kk)):=by
  refine pure_of (tyOk FU [(82,.pure (S82 B kk))]) (look_ok (all_cons (ok82 W0 B kk) all_nil)) mixed fn33 (lpsOk_no _ _) fun args r h => ?_
  unfold S33 at h
  split at h
  · rename_i v
    simp only [Tr.val_chk,chk_some,Bool.and_eq_true,decide_eq_true_eq] at h
    obtain ⟨⟨hv,hB⟩,h⟩:=h
    obtain ⟨m,rfl⟩:=okC_pos hv
    obtain ⟨k,c,vk,vn,vs,l,p,rfl,h1,h2,h3,h4,h5⟩:=okC_inv hv
    refine (run33 FU B (m + 1) k c vk vn vs l p).trans (Eq.trans ?_ h)
    simp only [Tr.val_ok,Tr.val_chk,chk_i,hv,hB,Bool.true_and,decide_true]
    rfl
  · simp [Tr.val_no] at h
theorem ok34 (W0:World) (B kk:Nat):EKOk Tryz.prog W0 34 (.pure (S33 B kk)):=by
  refine pure_of (tyOk FU [(83,.pure (S82 B kk))]) (look_ok (all_cons (ok83 W0 B kk) all_nil)) mixed fn34 (lpsOk_no _ _) fun args r h => ?_
  unfold S33 at h
  split at h
  · rename_i v
    simp only [Tr.val_chk,chk_some,Bool.and_eq_true,decide_eq_true_eq] at h
    obtain ⟨⟨hv,hB⟩,h⟩:=h
    obtain ⟨m,rfl⟩:=okC_pos hv
    obtain ⟨k,c,vk,vn,vs,l,p,rfl,h1,h2,h3,h4,h5⟩:=okC_inv hv
    refine (run34 FU B (m + 1) k c vk vn vs l p).trans (Eq.trans ?_ h)
    simp only [Tr.val_ok,Tr.val_chk,chk_i,hv,hB,Bool.true_and,decide_true]
    rfl
    
  · simp [Tr.val_no] at h
theorem ok206 (W0:World) (hW:Laid W0) (B kk:Nat) (ih:EKOk Tryz.prog W0 147 (.pure (S147 B kk))):EKOk Tryz.prog W0 206 (.pure (S206 B kk)):=by
  refine pure_of (tyOk FU [(147,.pure (S147 B kk))]) (look_ok (all_cons ih all_nil)) mixed fn206 (lpsOk_no _ _) fun args r h => ?_
  unfold S206 at h
  split at h
  · rename_i v
    simp only [Tr.val_chk,chk_some,Bool.and_eq_true,decide_eq_true_eq] at h
    obtain ⟨⟨hv,hB⟩,h⟩:=h
    obtain ⟨m,rfl⟩:=okC_pos hv
    obtain ⟨k,c,vk,vn,vs,l,p,rfl,h1,h2,h3,h4,h5⟩:=okC_inv hv
    refine (run206 FU B (m + 1) k c vk vn vs l p).trans (Eq.trans ?_ h)
    simp only [Tr.val_ok,Tr.val_chk,chk_i,hv,hB,Bool.true_and,decide_true,if_true]
    
  · simp [Tr.val_no] at h
theorem loop241_0 (F:Nat) {R:Type} (B:Nat) (kk:Nat) (l:List DV) (n:Int) (K:Ex → St → Option R) (g0:n = l.length) (g1:l.length ≤ big) (g2:B ≤ big) (g3:l.all (okC B kk) = true) :
    ∀ (m:Nat) (i:Int),0 ≤ i → i ≤ l.length → (l.length - i).toNat < m →
      loopK (pcodeK (ctx F [(206,.pure (S206 B kk))]) noL (lp Tryz.f241 0)) 0 (allBut 19 [0,1,7,8] ++ temps (lp Tryz.f241 0)) (allBut 19 [4]) m
        ⟨slots 19 [(0,.d (.slc 7 l)),(1,.func 206 []),(7,.d (.int .i64 n)),(8,.d (.int .i64 i))],[]⟩ K =
      Tr.run (.cnd (decide (0 ≤ idxP (fun x => !soundD kk x) (l.drop i.toNat) i)) (.ok (.ret,⟨slots 19 [(4,.d (.int .i64 (idxP (fun x => !soundD kk x) (l.drop i.toNat) i)))],[]⟩)) (.ok (.exit 0,⟨slots 19 [],[]⟩))) (fun p => K p.1 p.2):=by
  intro m
  induction m with
  | zero => intro i; intros; omega
  | succ m ih =>
    intro i h0 h1 hm
    rw [loopK_succ,round241_0]
    unfold big at g1
    simp only [Tr.run,rnd,cnd_i,chk_i,Bool.and_eq_true,decide_eq_true_eq]
    by_cases hi:i < n
    · have w:IntKind.i64.wrap (i + 1) = i + 1:=wrap64 (by omega) (by omega)
      have hx:=all_gt (by assumption:l.all (okC B kk) = true) (i:=i) (by omega) (by omega)
      have ht:=okC_fits hx
      rw [okC_view hx]
      have ih1:=ih (i + 1) (by omega) (by omega) (by omega)
      simp only [Tr.run,cnd_i,decide_eq_true_eq] at ih1
      rw [idx_drop (by omega) (by omega)]
      clear ih
      rw [ht,hx]
      grind
    · have:l.drop i.toNat = []:=List.drop_of_length_le (by omega)
      rw [this]
      simp [hi,idxP]
theorem lps241 (F:Nat) (hF:F = FU) (B kk:Nat):LpsOk (ctx F [(206,.pure (S206 B kk))]) (L241 B kk) (loopsOf (body Tryz.f241)):=by
  subst hF
  refine lps_one (c:=lp Tryz.f241 0) rfl (by kernel_rfl) fun R st K r h => ?_
  unfold T241_0 at h
  cases hs:shape 19 [0,1,7,8] st.slots with
  | false => rw [hs] at h; simp [Tr.run] at h
  | true =>
  rw [hs] at h
  simp only [cond_true] at h
  have he:=shape_eq hs
  obtain ⟨sl0,H⟩:=st
  dsimp only at h he ⊢
  split at h
  · rename_i l n i g0_ g1_ g2_ g3_
    simp only [List.map_cons,List.map_nil,g0_,g1_,g2_,g3_] at he
    subst he
    simp only [Tr.run] at h
    cases hc:(decide (n = l.length) && decide (l.length ≤ big) && decide (B ≤ big) && decide (l.all (okC B kk) = true) && decide (0 ≤ i) && decide (i ≤ l.length)) with
    | false => rw [hc] at h; simp at h
    | true =>
    rw [hc] at h
    simp only [Bool.and_eq_true,decide_eq_true_eq] at hc
    obtain ⟨⟨⟨⟨⟨c0,c1⟩,c2⟩,c3⟩,c4⟩,c5⟩:=hc
    refine (loop241_0 FU B kk l n K c0 c1 c2 c3 FU i c4 c5 (by unfold FU; unfold big at *; omega)).trans ?_
    rw [← h]
    rfl
  · simp [Tr.run] at h
theorem ok241 (W0:World) (hW:Laid W0) (B kk:Nat) (ih:EKOk Tryz.prog W0 147 (.pure (S147 B kk))):EKOk Tryz.prog W0 241 (.pure (S241 B kk)):=by
  refine pure_of (tyOk FU [(206,.pure (S206 B kk))]) (look_ok (all_cons (ok206 W0 hW B kk ih) all_nil)) mixed fn241 (lps241 FU rfl B kk) fun args r h => ?_
  unfold S241 at h
  split at h
  · rename_i l
    refine (run241 FU B kk l).trans (Eq.trans ?_ h)
    simp only [Tr.val_chk,chk_some,Bool.and_eq_true,decide_eq_true_eq] at h
    obtain ⟨⟨c0,c1⟩,c2⟩:=h.1
    clear h
    have e:=idxP_ge (fun x => !soundD kk x) l 0 (by omega)
    simp only [Tr.val_ok,Tr.val_cnd,Tr.val_chk,cnd_i,chk_i,Bool.and_eq_true,decide_eq_true_eq,List.drop_zero,Int.toNat_zero]
    grind
  · simp [Tr.val_no] at h
theorem ok205 (W0:World) (hW:Laid W0) (B kk:Nat) (ih:EKOk Tryz.prog W0 147 (.pure (S147 B kk))):EKOk Tryz.prog W0 205 (.pure (S205 B kk)):=by
  refine pure_of (tyOk FU [(241,.pure (S241 B kk))]) (look_ok (all_cons (ok241 W0 hW B kk ih) all_nil)) mixed fn205 (lpsOk_no _ _) fun args r h => ?_
  unfold S205 at h
  split at h
  · rename_i l
    refine (run205 FU B kk l).trans (Eq.trans ?_ h)
    simp only [Tr.val_chk,chk_some,Bool.and_eq_true,decide_eq_true_eq] at h
    obtain ⟨⟨c0,c1⟩,c2⟩:=h.1
    clear h
    simp only [Tr.val_ok,Tr.val_chk,idxP_any _ l 0 (Int.le_refl 0)]
  · simp [Tr.val_no] at h
theorem ok147s (W0:World) (hW:Laid W0) (B kk:Nat) (ih:EKOk Tryz.prog W0 147 (.pure (S147 B kk))):EKOk Tryz.prog W0 147 (.pure (S147 B (kk + 1))):=by
  refine pure_of (tyOk FU [(35,.pure S35),(145,.pure S145u),(205,.pure (S205 B kk))]) (look_ok (all_cons (ok35 W0 hW) (all_cons (ok145u W0 hW) (all_cons (ok205 W0 hW B kk ih) all_nil)))) mixed fn147 (lpsOk_no _ _) fun args r h => ?_
  unfold S147 at h
  split at h
  · rename_i v
    simp only [Tr.val_chk,chk_some,Bool.and_eq_true,decide_eq_true_eq] at h
    obtain ⟨⟨hv,hB⟩,h⟩:=h
    obtain ⟨k,c,vk,vn,vs,l,p,rfl,h1,h2,h3,h4,h5⟩:=okC_inv hv
    refine (run147 FU B kk k c vk vn vs l p).trans (Eq.trans ?_ h)
    simp only [Tr.val_ok,Tr.val_cnd,Tr.val_chk,cnd_i,chk_i,Bool.and_eq_true,decide_eq_true_eq,soundD_s,← any_not (soundD kk) l]
    have hb:l.length ≤ big:=by omega
    have hb1:c.length ≤ big:=by omega
    have hb2:vs.length ≤ big:=by omega
    have er:rightE vk vn vs = 0 ↔ rightR vk vn vs = true:=by unfold rightE; split <;> simp_all
    simp only [hb,hb1,hb2,h5,hB,and_self,if_true,Bool.and_true,Bool.true_and]
    clear h hv ih
    grind
    
  · simp [Tr.val_no] at h
theorem ok147 (W0:World) (hW:Laid W0) (B:Nat):∀ kk,EKOk Tryz.prog W0 147 (.pure (S147 B kk)):=by
  intro kk
  induction kk with
  | zero => exact ek_void W0 fn147 (S147_zero B)
  | succ kk ih => exact ok147s W0 hW B kk ih
theorem loop193_0 (F:Nat) {R:Type} (B:Nat) (kk:Nat) (k:Int) (c:Str) (vk:Int) (vn:Int) (vs:Str) (l:List DV) (p:Int) (K:Ex → St → Option R) (g0:l.length ≤ big) (g1:B ≤ big) (g2:l.all (okC B kk) = true) :
    ∀ (m:Nat) (i:Int),0 ≤ i → i ≤ l.length → (l.length - i).toNat < m →
      loopK (pcodeK (ctx F [(36,.pure S35),(154,.pure S154),(193,.pure (S193 B kk))]) noL (lp Tryz.f193 0)) 1 (allBut 49 [1,3] ++ temps (lp Tryz.f193 0)) (allBut 49 [1,2]) m
        ⟨slots 49 [(1,.ptr 0 0),(3,.d (.int .i64 i))],[.cells [.d (.int .i64 k),.d (.str c),.d (.int .i64 vk),.d (.int .i64 vn),.d (.str vs),.d (.slc 7 l),.d (.int .i64 p)]]⟩ K =
      Tr.run (.cnd ((l.drop i.toNat).all (condD kk)) (.ok (.exit 0,⟨slots 49 [(1,.ptr 0 0)],[.cells [.d (.int .i64 k),.d (.str c),.d (.int .i64 vk),.d (.int .i64 vn),.d (.str vs),.d (.slc 7 l),.d (.int .i64 p)]]⟩)) (.ok (.ret,⟨slots 49 [(1,.ptr 0 0),(2,.d (.bool false))],[.cells [.d (.int .i64 k),.d (.str c),.d (.int .i64 vk),.d (.int .i64 vn),.d (.str vs),.d (.slc 7 l),.d (.int .i64 p)]]⟩))) (fun p => K p.1 p.2):=by
  intro m
  induction m with
  | zero => intro i; intros; omega
  | succ m ih =>
    intro i h0 h1 hm
    rw [loopK_succ,round193_0]
    unfold big at g0
    simp only [Tr.run,rnd,cnd_i,chk_i,Bool.and_eq_true,decide_eq_true_eq]
    by_cases hi:i < l.length
    · have w:IntKind.i64.wrap (i + 1) = i + 1:=wrap64 (by omega) (by omega)
      have hx:=all_gt g2 (i:=i) (by omega) (by omega)
      have ht:=okC_fits hx
      rw [okC_view hx]
      have ih1:=ih (i + 1)
      simp only [Tr.run,cnd_i] at ih1
      rw [all_drop (by omega) (by omega)]
      clear ih
      rw [ht,hx]
      grind
    · have:l.drop i.toNat = []:=List.drop_of_length_le (by omega)
      rw [this]
      simp [hi]
theorem lps193 (F:Nat) (hF:F = FU) (B kk:Nat):LpsOk (ctx F [(36,.pure S35),(154,.pure S154),(193,.pure (S193 B kk))]) (L193 B kk) (loopsOf (body Tryz.f193)):=by
  subst hF
  refine lps_one (c:=lp Tryz.f193 0) rfl (by kernel_rfl) fun R st K r h => ?_
  unfold T193_0 at h
  cases hs:shape 49 [1,3] st.slots with
  | false => rw [hs] at h; simp [Tr.run] at h
  | true =>
  rw [hs] at h
  simp only [cond_true] at h
  have he:=shape_eq hs
  obtain ⟨sl0,H⟩:=st
  dsimp only at h he ⊢
  split at h
  · rename_i i k c vk vn vs l p g0_ g1_
    simp only [List.map_cons,List.map_nil,g0_,g1_] at he
    subst he
    simp only [Tr.run] at h
    cases hc:(decide (l.length ≤ big) && decide (B ≤ big) && decide (l.all (okC B kk) = true) && decide (0 ≤ i) && decide (i ≤ l.length)) with
    | false => rw [hc] at h; simp at h
    | true =>
    rw [hc] at h
    simp only [Bool.and_eq_true,decide_eq_true_eq] at hc
    obtain ⟨⟨⟨⟨c0,c1⟩,c2⟩,c3⟩,c4⟩:=hc
    refine (loop193_0 FU B kk k c vk vn vs l p K c0 c1 c2 FU i c3 c4 (by unfold FU; unfold big at *; omega)).trans ?_
    rw [← h]
    rfl
  · simp [Tr.run] at h
theorem ok193s (W0:World) (B kk:Nat) (ih:EKOk Tryz.prog W0 193 (.pure (S193 B kk))):EKOk Tryz.prog W0 193 (.pure (S193 B (kk + 1))):=by
  refine pure_of (tyOk FU [(36,.pure S35),(154,.pure S154),(193,.pure (S193 B kk))]) (look_ok (all_cons (ok36 W0) (all_cons (ok154 W0) (all_cons ih all_nil)))) mixed fn193 (lps193 FU rfl B kk) fun args r h => ?_
  unfold S193 at h
  split at h
  · rename_i v
    simp only [Tr.val_chk,chk_some,Bool.and_eq_true,decide_eq_true_eq] at h
    obtain ⟨⟨hv,hB⟩,h⟩:=h
    obtain ⟨k,c,vk,vn,vs,l,p,rfl,h1,h2,h3,h4,h5⟩:=okC_inv hv
    refine (run193 FU B kk k c vk vn vs l p).trans (Eq.trans ?_ h)
    simp only [Tr.val_ok,Tr.val_cnd,Tr.val_chk,cnd_i,chk_i,Bool.and_eq_true,decide_eq_true_eq,condD_s,List.drop_zero,Int.toNat_zero]
    have hb:l.length ≤ big:=by omega
    have hb1:c.length ≤ big:=by omega
    have hb2:vs.length ≤ big:=by omega
    simp only [hb,hb1,hb2,h5,hB,and_self,if_true,Bool.and_true,Bool.true_and]
    clear h hv ih
    grind
    
  · simp [Tr.val_no] at h
theorem ok193 (W0:World) (B:Nat):∀ kk,EKOk Tryz.prog W0 193 (.pure (S193 B kk)):=by
  intro kk
  induction kk with
  | zero => exact ek_void W0 fn193 (S193_zero B)
  | succ kk ih => exact ok193s W0 B kk ih
theorem ok144 (W0:World) (hW:Laid W0):EKOk Tryz.prog W0 144 (.pure S144):=by
  refine pure_of (tyOk FU [(35,.pure S35)]) (look_ok (all_cons (ok35 W0 hW) all_nil)) mixed fn144 (lpsOk_no _ _) fun args r h => ?_
  unfold S144 at h
  split at h
  · rename_i b c a t p
    refine (run144 FU b c a t p).trans (Eq.trans ?_ h)
    simp only [Tr.val_chk,chk_some,Bool.and_eq_true,decide_eq_true_eq] at h
    obtain c0:=h.1
    clear h
    simp only [Tr.val_ok,Tr.val_cnd,Tr.val_chk,cnd_i,chk_i,Bool.and_eq_true,decide_eq_true_eq,placeB,c0,if_true]
    grind
  · simp [Tr.val_no] at h
theorem ok197 (W0:World):EKOk Tryz.prog W0 197 (.pure S144):=by
  refine pure_of (tyOk FU [(36,.pure S35)]) (look_ok (all_cons (ok36 W0) all_nil)) mixed fn197 (lpsOk_no _ _) fun args r h => ?_
  unfold S144 at h
  split at h
  · rename_i b c a t p
    refine (run197 FU b c a t p).trans (Eq.trans ?_ h)
    simp only [Tr.val_chk,chk_some,Bool.and_eq_true,decide_eq_true_eq] at h
    obtain c0:=h.1
    clear h
    simp only [Tr.val_ok,Tr.val_cnd,Tr.val_chk,cnd_i,chk_i,Bool.and_eq_true,decide_eq_true_eq,placeB,c0,if_true]
    grind
  · simp [Tr.val_no] at h
theorem ok196 (W0:World):EKOk Tryz.prog W0 196 (.pure S196):=by
  refine pure_of (tyOk FU []) (look_ok all_nil) mixed fn196 (lpsOk_no _ _) fun args r h => ?_
  unfold S196 at h
  split at h
  · rename_i b c a t p
    refine (run196 FU b c a t p).trans (Eq.trans ?_ h)
    simp only [Tr.val_ok,Tr.val_cnd,Tr.val_chk,cnd_i,chk_i,Bool.and_eq_true,decide_eq_true_eq,noneB]
    grind
  · simp [Tr.val_no] at h
theorem ok194 (W0:World):EKOk Tryz.prog W0 194 (.pure S194):=by
  refine pure_of (tyOk FU []) (look_ok all_nil) mixed fn194 (lpsOk_no _ _) fun args r h => ?_
  unfold S194 at h
  split at h
  · rename_i k c vk vn vs l p
    refine (run194 FU k c vk vn vs l p).trans (Eq.trans ?_ h)
    have e:bareB (.agg [.int .i64 k,.str c,.int .i64 vk,.int .i64 vn,.str vs,.slc 7 l,.int .i64 p]) = (decide (k = 0) && decide (c = []) && (decide (vk = 0) && (decide (vn = 0) && decide (vs = []))) && decide (l.length = 0)):=rfl
    have e2:decide ((l.length:Int) = 0) = decide (l.length = 0):=by simp only [decide_eq_decide]; omega
    simp only [Tr.val_ok,Tr.val_cnd,Tr.val_chk,cnd_i,chk_i,Bool.and_eq_true,decide_eq_true_eq,e,e2,Bool.and_true]
    grind
    
  · simp [Tr.val_no] at h
end Go.PS
end

section
namespace Go.PS
open Go.Proofs
def okInt:DV → Bool
  | .int .i64 _ => true
  | _ => false
theorem okInt_fits {v:DV} (h:okInt v = true):fits [.int .i64 0] v.cells = true:=by
  unfold okInt at h; split at h
  · rfl
  · simp at h
def S203:List PV → Tr PV
  | [.d (.slc 1 l),.d (.int .i64 k)] => .chk (l.all okInt && decide (l.length ≤ big)) (.ok (.d (.int .i64 (idxP (fun x => decide (k = cI x 0)) l 0))))
  | _ => .no
def S143:List PV → Tr PV
  | [.d (.slc 1 l),.d (.int .i64 k)] => .chk (l.all okInt && decide (l.length ≤ big)) (.ok (.d (.bool (l.any fun x => decide (k = cI x 0)))))
  | _ => .no
def S142:List PV → List PObj → Tr (Out × List PObj)
  | [.d (.slc 1 l),.ptr 0 0],[.cells [.d (.int .i64 k),.d (.int .i64 f),.d (.int .i64 t),.d (.str path),.d (.str name),.d (.str b),.d (.int .i64 c),.d (.bool a),.d (.int .i64 ti),.d (.int .i64 p1),.d (.str b2),.d (.int .i64 cm2),.d (.bool a2),.d (.int .i64 ti2),.d (.int .i64 p2),.d (.int .i64 p3)]] => .chk (l.all okInt && decide (l.length ≤ big)) (.ok (.ret (.d (.bool (l.any fun x => decide (k = cI x 0)))),[.cells [.d (.int .i64 k),.d (.int .i64 f),.d (.int .i64 t),.d (.str path),.d (.str name),.d (.str b),.d (.int .i64 c),.d (.bool a),.d (.int .i64 ti),.d (.int .i64 p1),.d (.str b2),.d (.int .i64 cm2),.d (.bool a2),.d (.int .i64 ti2),.d (.int .i64 p2),.d (.int .i64 p3)]]))
  | _,_ => .no
def S78:List PV → Tr PV
  | [.d (.agg [.int .i64 k,.int .i64 f,.int .i64 t,.str path,.str name,.str b,.int .i64 c,.bool a,.int .i64 ti,.int .i64 p1,.str b2,.int .i64 cm2,.bool a2,.int .i64 ti2,.int .i64 p2,.int .i64 p3])] => .chk (decide (path.length ≤ big) && decide (name.length ≤ big) && decide (b.length ≤ big) && decide (b2.length ≤ big)) (.ok (.d (.bool (srcB k f t path name b c a ti b2 cm2 a2 ti2))))
  | _ => .no
theorem okStep_inv {B n:Nat} {v:DV} (h:okStep B n v = true):∃ sk k c vk vn vs l p cols bys m sp,v = .agg [.int .i64 sk,.int .i64 k,.str c,.int .i64 vk,.int .i64 vn,.str vs,.slc 7 l,.int .i64 p,.slc 3 cols,.slc 3 bys,.int .i64 m,.int .i64 sp] ∧ okC B n (.agg [.int .i64 k,.str c,.int .i64 vk,.int .i64 vn,.str vs,.slc 7 l,.int .i64 p]) = true ∧
    cols.all (okCol B) = true ∧ bys.all (okCol B) = true ∧ okI m = true ∧ cols.length ≤ B ∧ bys.length ≤ B:=by
  unfold okStep at h
  split at h
  · simp only [Bool.and_eq_true,decide_eq_true_eq] at h
    obtain ⟨⟨⟨⟨⟨h1,h2⟩,h3⟩,h4⟩,h5⟩,h6⟩:=h
    exact ⟨_,_,_,_,_,_,_,_,_,_,_,_,rfl,h1,h2,h3,h4,h5,h6⟩
  · simp at h
theorem okStep_fits {B n:Nat} {v:DV} (h:okStep B n v = true):fits [.int .i64 0,.int .i64 0,.str [],.int .i64 0,.int .i64 0,.str [],.nils 7,.int .i64 0,.nils 3,.nils 3,.int .i64 0,.int .i64 0] v.cells = true:=by
  obtain ⟨sk,k,c,vk,vn,vs,l',p,cols,bys,m,sp,rfl,_⟩:=okStep_inv h
  rfl
theorem okStep_view {B n:Nat} {l:List DV} {i:Nat} (h:okStep B n (gt .nili l i) = true) :
    DV.agg [view l i 0 (DV.int .i64 0),view l i (0 + 1) (DV.int .i64 0),view l i (0 + 1 + 1) (DV.str []),view l i (0 + 1 + 1 + 1) (DV.int .i64 0),view l i (0 + 1 + 1 + 1 + 1) (DV.int .i64 0),view l i (0 + 1 + 1 + 1 + 1 + 1) (DV.str []),view l i (0 + 1 + 1 + 1 + 1 + 1 + 1) (DV.nils 7),view l i (0 + 1 + 1 + 1 + 1 + 1 + 1 + 1) (DV.int .i64 0),view l i (0 + 1 + 1 + 1 + 1 + 1 + 1 + 1 + 1) (DV.nils 3),view l i (0 + 1 + 1 + 1 + 1 + 1 + 1 + 1 + 1 + 1) (DV.nils 3),view l i (0 + 1 + 1 + 1 + 1 + 1 + 1 + 1 + 1 + 1 + 1) (DV.int .i64 0),view l i (0 + 1 + 1 + 1 + 1 + 1 + 1 + 1 + 1 + 1 + 1 + 1) (DV.int .i64 0)] = gt .nili l i:=by
  obtain ⟨sk,k,c,vk,vn,vs,l',p,cols,bys,m,sp,e,_⟩:=okStep_inv h
  unfold view
  simp only [atI,atS,atL,atB]
  rw [e]; rfl
theorem cond_sound (B:Nat):∀ (n m:Nat) (v:DV),okC B n v = true → dep m v ≠ 0 → condD n v = soundD n v:=by
  intro n
  induction n with
  | zero => intro m v h; rw [okC_zero] at h; simp at h
  | succ n ih =>
    intro m v h hd
    obtain ⟨k,c,vk,vn,vs,l,p,rfl,h1,h2,h3,h4,h5⟩:=okC_inv h
    cases m with
    | zero => simp [dep] at hd
    | succ m =>
    unfold dep at hd
    have e1:cL (.agg [.int .i64 k,.str c,.int .i64 vk,.int .i64 vn,.str vs,.slc 7 l,.int .i64 p]) 5 = l:=rfl
    have e2:cI (.agg [.int .i64 k,.str c,.int .i64 vk,.int .i64 vn,.str vs,.slc 7 l,.int .i64 p]) 0 = k:=rfl
    rw [e1,e2] at hd
    split at hd
    · rename_i hc
      obtain ⟨hs,hn⟩:=hc
      rw [condD_s,soundD_s]
      have hall:l.all (condD n) = l.all (soundD n):=by
        rw [List.all_eq_true] at h5
        unfold nzL at hn
        rw [List.all_eq_true] at hn
        apply Bool.eq_iff_iff.2
        simp only [List.all_eq_true]
        constructor
        · intro g x hx
          rw [← ih m x (h5 x hx) (by simpa using hn x hx)]; exact g x hx
        · intro g x hx
          rw [ih m x (h5 x hx) (by simpa using hn x hx)]; exact g x hx
      rw [hall]
      by_cases hl:0 < l.length
      · have:k ≤ 3:=by unfold sidesI at hs; grind
        rw [if_pos hl,if_pos this,Bool.and_comm]
      · have:¬ k ≤ 3:=by unfold sidesI at hs; grind
        have hl0:l = []:=List.length_eq_zero_iff.1 (by omega)
        rw [if_neg hl,if_neg this,hl0]; rfl
    · simp at hd
theorem stepB_s (n:Nat) (sk:Int) (k:Int) (c:Str) (vk vn:Int) (vs:Str) (l:List DV) (p:Int) (cols bys:List DV) (m sp:Int):stepB n (.agg [.int .i64 sk,.int .i64 k,.str c,.int .i64 vk,.int .i64 vn,.str vs,.slc 7 l,.int .i64 p,.slc 3 cols,.slc 3 bys,.int .i64 m,.int .i64 sp]) =
    if sk = 1 then decide (cols.length = 0) && decide (bys.length = 0) && decide (m = 0) && decide (dep 16 (.agg [.int .i64 k,.str c,.int .i64 vk,.int .i64 vn,.str vs,.slc 7 l,.int .i64 p]) > 0) && soundD n (.agg [.int .i64 k,.str c,.int .i64 vk,.int .i64 vn,.str vs,.slc 7 l,.int .i64 p]) else
  if bareB (.agg [.int .i64 k,.str c,.int .i64 vk,.int .i64 vn,.str vs,.slc 7 l,.int .i64 p]) = false then false else
  if (sk ≠ 4 ∧ m ≠ 0) ∨ (sk < 5 ∧ 0 < bys.length) ∨ colsB bys 0 1 false = false then false else
  if sk = 2 then colsB cols 1 8 false else
  if sk = 3 then colsB cols 1 8 true else
  if sk = 4 then decide (cols.length = 0) && decide (m ≥ 0) else
  if sk = 5 then decide (cols.length = 0) else
  if sk = 6 ∨ sk = 7 ∨ sk = 8 then colsB cols 1 1 false else false:=rfl
theorem bareB_s (k:Int) (c:Str) (vk vn:Int) (vs:Str) (l:List DV) (p:Int):bareB (.agg [.int .i64 k,.str c,.int .i64 vk,.int .i64 vn,.str vs,.slc 7 l,.int .i64 p]) = (decide (k = 0) && decide (c = []) && (decide (vk = 0) && (decide (vn = 0) && decide (vs = []))) && decide (l.length = 0)):=rfl
def S81 (B n:Nat):List PV → Tr PV
  | [.d v] => .chk (okStep B n v && decide (B ≤ big)) (.ok (.d (.bool (stepB n v))))
  | _ => .no
def S80 (B n:Nat):List PV → Tr PV
  | [.d v] => .chk (okStep B n v && decide (B ≤ big)) (.ok (.d (.bool (!stepB n v))))
  | _ => .no
def S146 (B n:Nat):List PV → Tr PV
  | [.d (.slc 12 l),.func 80 []] => .chk (l.all (okStep B n) && decide (l.length ≤ big) && decide (B ≤ big)) (.ok (.d (.int .i64 (idxP (fun x => !stepB n x) l 0))))
  | _ => .no
def S79 (B n:Nat):List PV → Tr PV
  | [.d (.slc 12 l),.func 80 []] => .chk (l.all (okStep B n) && decide (l.length ≤ big) && decide (B ≤ big)) (.ok (.d (.bool (l.any fun x => !stepB n x))))
  | _ => .no
def rightQ (n:Nat) (k f t:Int) (path name b:Str) (c:Int) (a:Bool) (ti:Int) (b2:Str) (cm2:Int) (a2:Bool) (ti2:Int) (steps:List DV):Bool :=
  decide (steps.length ≤ 16) && srcB k f t path name b c a ti b2 cm2 a2 ti2 && steps.all (stepB n)
def lensQ (B:Nat) (path name b b2:Str):Bool:=lenB B path && lenB B name && lenB B b && lenB B b2
def S31 (B n:Nat):List PV → Tr PV
  | [.d (.agg [.int .i64 k,.int .i64 f,.int .i64 t,.str path,.str name,.str b,.int .i64 c,.bool a,.int .i64 ti,.int .i64 p1,.str b2,.int .i64 cm2,.bool a2,.int .i64 ti2,.int .i64 p2,.int .i64 p3,.slc 12 steps])] => .chk (steps.all (okStep B n) && decide (steps.length ≤ big) && decide (B ≤ big) && lensQ big path name b b2) (.ok (.d (.int .i64 (if rightQ n k f t path name b c a ti b2 cm2 a2 ti2 steps = true then 0 else 2))))
  | _ => .no
def S60 (B n:Nat):List PV → Tr PV
  | [.d (.agg [.int .i64 k,.int .i64 f,.int .i64 t,.str path,.str name,.str b,.int .i64 c,.bool a,.int .i64 ti,.int .i64 p1,.str b2,.int .i64 cm2,.bool a2,.int .i64 ti2,.int .i64 p2,.int .i64 p3,.slc 12 steps])] => .chk (steps.all (okStep B n) && decide (steps.length ≤ big) && decide (B ≤ big) && lensQ big path name b b2) (.ok (.d (.bool (rightQ n k f t path name b c a ti b2 cm2 a2 ti2 steps))))
  | _ => .no
def T242_0 (B:Nat) (st:St):Tr (Ex × St) :=
  bif shape 19 [0,1,7,8] st.slots then
    match gt .undef st.slots 0,gt .undef st.slots 1,gt .undef st.slots 7,gt .undef st.slots 8,st.heap with
    | .d (.slc 3 l),.func 207 [.ptr 0 0],.d (.int .i64 n),.d (.int .i64 i),[.cells [.d (.bool d)]] =>
      .chk (decide (n = l.length) && decide (l.length ≤ big) && decide (B ≤ big) && decide (l.all (okCol B) = true) && decide (0 ≤ i) && decide (i ≤ l.length)) (.cnd (decide (0 ≤ idxP (fun x => !colB d x) (l.drop i.toNat) i)) (.ok (.ret,⟨slots 19 [(4,.d (.int .i64 (idxP (fun x => !colB d x) (l.drop i.toNat) i)))],[.cells [.d (.bool d)]]⟩)) (.ok (.exit 0,⟨slots 19 [],[.cells [.d (.bool d)]]⟩)))
    | _,_,_,_,_ => .no
  else .no
def L242 (B:Nat):Lps:=fun i => bif Nat.beq i 2 then some (allBut 19 [0,1,7,8],allBut 19 [4],T242_0 B) else none
def T195_0 (B:Nat) (st:St):Tr (Ex × St) :=
  bif shape 44 [0,1,2,3,9] st.slots then
    match gt .undef st.slots 0,gt .undef st.slots 1,gt .undef st.slots 2,gt .undef st.slots 3,gt .undef st.slots 9,st.heap with
    | .d (.slc 3 l),.d (.int .i64 a),.d (.int .i64 b),.d (.bool d),.d (.int .i64 i),[] =>
      .chk (decide (l.length ≤ big) && decide (B ≤ big) && decide (l.all (okCol B) = true) && decide (0 ≤ i) && decide (i ≤ l.length)) (.cnd ((l.drop i.toNat).all (colB d)) (.ok (.exit 0,⟨slots 44 [(0,.d (.slc 3 l)),(1,.d (.int .i64 a)),(2,.d (.int .i64 b))],[]⟩)) (.ok (.ret,⟨slots 44 [(0,.d (.slc 3 l)),(1,.d (.int .i64 a)),(2,.d (.int .i64 b)),(8,.d (.bool false))],[]⟩)))
    | _,_,_,_,_,_ => .no
  else .no
def L195 (B:Nat):Lps:=fun i => bif Nat.beq i 2 then some (allBut 44 [0,1,2,3,9],allBut 44 [0,1,2,8],T195_0 B) else none
def T203_0 (st:St):Tr (Ex × St) :=
  bif shape 19 [0,1,7,8] st.slots then
    match gt .undef st.slots 0,gt .undef st.slots 1,gt .undef st.slots 7,gt .undef st.slots 8,st.heap with
    | .d (.slc 1 l),.d (.int .i64 k),.d (.int .i64 n),.d (.int .i64 i),[] =>
      .chk (decide (n = l.length) && decide (l.length ≤ big) && decide (l.all okInt = true) && decide (0 ≤ i) && decide (i ≤ l.length)) (.cnd (decide (0 ≤ idxP (fun x => decide (k = cI x 0)) (l.drop i.toNat) i)) (.ok (.ret,⟨slots 19 [(4,.d (.int .i64 (idxP (fun x => decide (k = cI x 0)) (l.drop i.toNat) i)))],[]⟩)) (.ok (.exit 0,⟨slots 19 [],[]⟩)))
    | _,_,_,_,_ => .no
  else .no
def L203:Lps:=fun i => bif Nat.beq i 2 then some (allBut 19 [0,1,7,8],allBut 19 [4],T203_0) else none
end Go.PS
end

section
namespace Go.PS
open Go.Proofs
set_option maxRecDepth 100000
theorem fn207:FnOk Tryz.prog 207 16 [.tmp 3] (body Tryz.f207):=⟨Tryz.f207,Tryz.func207,bodySome _ (by kernel_rfl),by kernel_rfl,by kernel_rfl,by kernel_rfl,by kernel_rfl⟩
theorem run207 (F:Nat) (B:Nat) (s:Str) (x:Bool) (p:Int) (d:Bool):runE (ctx F [(35,.pure S35)]) noL 16 [.tmp 3] (body Tryz.f207) [.d (.agg [.str s,
 .bool x,.int .i64 p]),.ptr 0 0] [.cells [.d (.bool d)]] = Tr.val (.chk (decide (List.length s ≤ big)) (.cnd (!nameB s) (.ok ((Out.ret (PV.d (.bool true)),
 [PObj.cells [.d (.bool d)]]))) (.cnd (x) (.ok ((Out.ret (PV.d (.bool !d)),[PObj.cells [.d (.bool d)]]))) (.ok ((Out.ret (PV.d (.bool false)),[PObj.cells [.d
 (.bool d)]])))))):=by kernel_rfl
theorem round242_0 (F:Nat) {R:Type} (B:Nat) (l:List DV) (n i:Int) (d:Bool) (K:Ex → St → Option R) (G:St → Option R):roundK (pcodeK (ctx F
 [(207,.eff (frameT (S207 B)))]) noL (lp Tryz.f242 0)) 1 (allBut 19 [0,1,7,8] ++ temps (lp Tryz.f242 0)) (allBut 19 [4]) ⟨slots 19 [(0,.d (.slc 3 l)),(1,
 .func 207 [.ptr 0 0]),(7,.d (.int .i64 n)),(8,.d (.int .i64 i))],[.cells [.d (.bool d)]]⟩ K G = Tr.run (.cnd (decide (i < n)) (.chk (decide (0 ≤ i)) (.chk
 (decide (i.toNat < l.length)) (.chk (fits [.str [],.bool false,.int .i64 0] (gt DV.nili l i.toNat).cells) (.chk (okCol B (DV.agg [view l i.toNat 0 (.str []),
 view l i.toNat (0 + 1) (.bool false),view l i.toNat (0 + 1 + 1) (.int .i64 0)]) && decide (B ≤ big)) (.cnd (!colB d (DV.agg [view l i.toNat 0 (.str []),view l
 i.toNat (0 + 1) (.bool false),view l i.toNat (0 + 1 + 1) (.int .i64 0)])) (.ok (.inl (Ex.ret,⟨slots 19 [(4,.d (.int .i64 i))],[PObj.cells [.d (.bool d)]]⟩)))
 (.ok (.inr ⟨slots 19 [(0,.d (.slc 3 l)),(1,PV.func 207 [PV.ptr 0 0]),(7,.d (.int .i64 n)),(8,.d (.int .i64 (IntKind.i64.wrap (i + 1))))],[PObj.cells [.d
 (.bool d)]]⟩))))))) (.ok (.inl (Ex.exit 0,⟨slots 19 [],[PObj.cells [.d (.bool d)]]⟩)))) (rnd K G):=by kernel_rfl
theorem fn242:FnOk Tryz.prog 242 19 [.tmp 4] (body Tryz.f242):=⟨Tryz.f242,Tryz.func242,bodySome _ (by kernel_rfl),by kernel_rfl,by kernel_rfl,by kernel_rfl,by kernel_rfl⟩
theorem run242 (F:Nat) (B:Nat) (l:List DV) (d:Bool):runE (ctx F [(207,.eff (frameT (S207 B)))]) (L242 B) 19 [.tmp 4] (body Tryz.f242) [.d (.slc 3 l),
 .func 207 [.ptr 0 0]] [.cells [.d (.bool d)]] = Tr.val (.chk (decide ((↑l.length:Int) = (↑l.length:Int)) && decide (l.length ≤ big) && decide (B ≤ big) &&
 decide (l.all (okCol B) = true) && decide (0 ≤ 0) && decide (0 ≤ (↑l.length:Int))) (.cnd (decide (0 ≤ idxP (fun x ↦ !colB d x) (List.drop (Int.toNat 0) l) 0))
 (.ok ((Out.ret (PV.d (.int .i64 (idxP (fun x ↦ !colB d x) (List.drop (Int.toNat 0) l) 0))),[PObj.cells [.d (.bool d)]]))) (.ok ((Out.ret (PV.d (.int .i64
 (Int.negSucc 0))),[PObj.cells [.d (.bool d)]]))))):=by kernel_rfl
theorem fn208:FnOk Tryz.prog 208 9 [.tmp 4] (body Tryz.f208):=⟨Tryz.f208,Tryz.func208,bodySome _ (by kernel_rfl),by kernel_rfl,by kernel_rfl,by kernel_rfl,by kernel_rfl⟩
theorem run208 (F:Nat) (B:Nat) (l:List DV) (d:Bool):runE (ctx F [(242,.eff (frameT (S242 B)))]) noL 9 [.tmp 4] (body Tryz.f208) [.d (.slc 3 l),.func
 207 [.ptr 0 0]] [.cells [.d (.bool d)]] = Tr.val (.chk (l.all (okCol B) && decide (l.length ≤ big) && decide (B ≤ big)) (.ok ((Out.ret (PV.d (.bool (decide (idxP
 (fun x ↦ !colB d x) l 0 ≥ 0)))),[PObj.cells [.d (.bool d)]])))):=by kernel_rfl
theorem fn148:FnOk Tryz.prog 148 27 [.tmp 8] (body Tryz.f148):=⟨Tryz.f148,Tryz.func148,bodySome _ (by kernel_rfl),by kernel_rfl,by kernel_rfl,by kernel_rfl,by kernel_rfl⟩
theorem run148 (F:Nat) (B:Nat) (l:List DV) (a b:Int) (d:Bool):runP (ctx F [(208,.eff (frameT (S208 B)))]) noL 27 [.tmp 8] (body Tryz.f148) [.d (.slc
 3 l),.d (.int .i64 a),.d (.int .i64 b),.d (.bool d)] = Tr.val (.cnd (decide ((↑l.length:Int) ≥ a)) (.cnd (decide ((↑l.length:Int) ≤ b)) (.chk (l.all
 (okCol B) && decide (l.length ≤ big) && decide (B ≤ big)) (.ok (PV.d (.bool !l.any fun x ↦ !colB d x)))) (.ok (PV.d (.bool false)))) (.ok (PV.d (.bool false))))
 := by kernel_rfl
theorem round195_0 (F:Nat) {R:Type} (l:List DV) (a b:Int) (d:Bool) (i:Int) (K:Ex → St → Option R) (G:St → Option R):roundK (pcodeK (ctx F [(36,
 .pure S35)]) noL (lp Tryz.f195 0)) 0 (allBut 44 [0,1,2,3,9] ++ temps (lp Tryz.f195 0)) (allBut 44 [0,1,2,8]) ⟨slots 44 [(0,.d (.slc 3 l)),(1,.d (.int
 .i64 a)),(2,.d (.int .i64 b)),(3,.d (.bool d)),(9,.d (.int .i64 i))],[]⟩ K G = Tr.run (.cnd (decide (i < (↑l.length:Int))) (.chk (decide (0 ≤ i)) (.chk
 (decide (i.toNat < l.length)) (.chk (fits [.str [],.bool false,.int .i64 0] (gt DV.nili l i.toNat).cells) (.chk (decide ((atS l i.toNat 0).length ≤ big)) (.cnd
 (!nameB (atS l i.toNat 0)) (.ok (.inl (Ex.ret,⟨slots 44 [(0,.d (.slc 3 l)),(1,.d (.int .i64 a)),(2,.d (.int .i64 b)),(8,.d (.bool false))],[]⟩))) (.chk
 (decide (0 ≤ i)) (.chk (decide (i.toNat < l.length)) (.chk (fits [.str [],.bool false,.int .i64 0] (gt DV.nili l i.toNat).cells) (.cnd (atB l i.toNat (0 + 1))
 (.cnd (!d) (.ok (.inl (Ex.ret,⟨slots 44 [(0,.d (.slc 3 l)),(1,.d (.int .i64 a)),(2,.d (.int .i64 b)),(8,.d (.bool false))],[]⟩))) (.ok (.inr ⟨slots 44
 [(0,.d (.slc 3 l)),(1,.d (.int .i64 a)),(2,.d (.int .i64 b)),(3,.d (.bool d)),(9,.d (.int .i64 (IntKind.i64.wrap (i + 1))))],[]⟩))) (.ok (.inr ⟨slots
 44 [(0,.d (.slc 3 l)),(1,.d (.int .i64 a)),(2,.d (.int .i64 b)),(3,.d (.bool d)),(9,.d (.int .i64 (IntKind.i64.wrap (i + 1))))],[]⟩))))))))))) (.ok
 (.inl (Ex.exit 0,⟨slots 44 [(0,.d (.slc 3 l)),(1,.d (.int .i64 a)),(2,.d (.int .i64 b))],[]⟩)))) (rnd K G):=by kernel_rfl
theorem fn195:FnOk Tryz.prog 195 44 [.tmp 8] (body Tryz.f195):=⟨Tryz.f195,Tryz.func195,bodySome _ (by kernel_rfl),by kernel_rfl,by kernel_rfl,by kernel_rfl,by kernel_rfl⟩
theorem run195 (F:Nat) (B:Nat) (l:List DV) (a b:Int) (d:Bool):runP (ctx F [(36,.pure S35)]) (L195 B) 44 [.tmp 8] (body Tryz.f195) [.d (.slc 3 l),.d
 (.int .i64 a),.d (.int .i64 b),.d (.bool d)] = Tr.val (.chk (decide (l.length ≤ big) && decide (B ≤ big) && decide (l.all (okCol B) = true) && decide (0 ≤ 0)
 && decide (0 ≤ (↑l.length:Int))) (.cnd ((List.drop (Int.toNat 0) l).all (colB d)) (.cnd (decide ((↑l.length:Int) ≥ a)) (.ok (PV.d (.bool (decide ((↑l.length
 : Int) ≤ b))))) (.ok (PV.d (.bool false)))) (.ok (PV.d (.bool false))))):=by kernel_rfl
theorem round203_0 (F:Nat) {R:Type} (l:List DV) (k n i:Int) (K:Ex → St → Option R) (G:St → Option R):roundK (pcodeK (ctx F []) noL (lp Tryz.f203
 0)) 0 (allBut 19 [0,1,7,8] ++ temps (lp Tryz.f203 0)) (allBut 19 [4]) ⟨slots 19 [(0,.d (.slc 1 l)),(1,.d (.int .i64 k)),(7,.d (.int .i64 n)),(8,.d
 (.int .i64 i))],[]⟩ K G = Tr.run (.cnd (decide (i < n)) (.chk (decide (0 ≤ i)) (.chk (decide (i.toNat < l.length)) (.chk (fits [.int .i64 0] (gt DV.nili l
 i.toNat).cells) (.cnd (decide (k = atI l i.toNat 0)) (.ok (.inl (Ex.ret,⟨slots 19 [(4,.d (.int .i64 i))],[]⟩))) (.ok (.inr ⟨slots 19 [(0,.d (.slc 1 l)),(1,
 .d (.int .i64 k)),(7,.d (.int .i64 n)),(8,.d (.int .i64 (IntKind.i64.wrap (i + 1))))],[]⟩)))))) (.ok (.inl (Ex.exit 0,⟨slots 19 [],[]⟩)))) (rnd K G):=by
 kernel_rfl
theorem fn203:FnOk Tryz.prog 203 19 [.tmp 4] (body Tryz.f203):=⟨Tryz.f203,Tryz.func203,bodySome _ (by kernel_rfl),by kernel_rfl,by kernel_rfl,by kernel_rfl,by kernel_rfl⟩
theorem run203 (F:Nat) (l:List DV) (k:Int):runP (ctx F []) L203 19 [.tmp 4] (body Tryz.f203) [.d (.slc 1 l),.d (.int .i64 k)] = Tr.val (.chk (decide
 ((↑l.length:Int) = (↑l.length:Int)) && decide (l.length ≤ big) && decide (l.all okInt = true) && decide (0 ≤ 0) && decide (0 ≤ (↑l.length:Int))) (.cnd
 (decide (0 ≤ idxP (fun x ↦ decide (k = cI x 0)) (List.drop (Int.toNat 0) l) 0)) (.ok (PV.d (.int .i64 (idxP (fun x ↦ decide (k = cI x 0)) (List.drop (Int.toNat
 0) l) 0)))) (.ok (PV.d (.int .i64 (Int.negSucc 0)))))):=by kernel_rfl
theorem fn143:FnOk Tryz.prog 143 9 [.tmp 4] (body Tryz.f143):=⟨Tryz.f143,Tryz.func143,bodySome _ (by kernel_rfl),by kernel_rfl,by kernel_rfl,by kernel_rfl,by kernel_rfl⟩
theorem run143 (F:Nat) (l:List DV) (k:Int):runP (ctx F [(203,.pure S203)]) noL 9 [.tmp 4] (body Tryz.f143) [.d (.slc 1 l),.d (.int .i64 k)] = Tr.val
 (.chk (l.all okInt && decide (l.length ≤ big)) (.ok (PV.d (.bool (decide (idxP (fun x ↦ decide (k = cI x 0)) l 0 ≥ 0)))))):=by kernel_rfl
theorem fn142:FnOk Tryz.prog 142 8 [.tmp 3] (body Tryz.f142):=⟨Tryz.f142,Tryz.func142,bodySome _ (by kernel_rfl),by kernel_rfl,by kernel_rfl,by kernel_rfl,by kernel_rfl⟩
theorem run142 (F:Nat) (l:List DV) (k f t:Int) (path name b:Str) (c:Int) (a:Bool) (ti p1:Int) (b2:Str) (cm2:Int) (a2:Bool) (ti2 p2 p3:Int)
 : runE (ctx F [(143,.pure S143)]) noL 8 [.tmp 3] (body Tryz.f142) [.d (.slc 1 l),.ptr 0 0] [.cells [.d (.int .i64 k),.d (.int .i64 f),.d (.int .i64 t),.d
 (.str path),.d (.str name),.d (.str b),.d (.int .i64 c),.d (.bool a),.d (.int .i64 ti),.d (.int .i64 p1),.d (.str b2),.d (.int .i64 cm2),.d (.bool a2),
 .d (.int .i64 ti2),.d (.int .i64 p2),.d (.int .i64 p3)]] = Tr.val (.chk (l.all okInt && decide (l.length ≤ big)) (.ok ((Out.ret (PV.d (.bool (l.any fun x ↦
 decide (k = cI x 0)))),[PObj.cells [.d (.int .i64 k),.d (.int .i64 f),.d (.int .i64 t),.d (.str path),.d (.str name),.d (.str b),.d (.int .i64 c),.d
 (.bool a),.d (.int .i64 ti),.d (.int .i64 p1),.d (.str b2),.d (.int .i64 cm2),.d (.bool a2),.d (.int .i64 ti2),.d (.int .i64 p2),.d (.int .i64 p3)]]))))
 := by kernel_rfl
end Go.PS
end

section
namespace Go.PS
open Go.Proofs
set_option linter.all false
theorem ok207 (W0:World) (hW:Laid W0) (B:Nat):EKOk Tryz.prog W0 207 (.eff (frameT (S207 B))):=by
  refine eff_of (tyOk FU [(35,.pure S35)]) (look_ok (all_cons (ok35 W0 hW) all_nil)) mixed fn207 (lpsOk_no _ _) fun args H r h => ?_
  unfold S207 at h
  split at h
  · rename_i v d
    simp only [Tr.val_chk,chk_some,Bool.and_eq_true,decide_eq_true_eq] at h
    obtain ⟨⟨hv,hB⟩,h⟩:=h
    obtain ⟨s,x,p,rfl,h1⟩:=okCol_inv hv
    refine (run207 FU B s x p d).trans (Eq.trans ?_ h)
    have hb:s.length ≤ big:=by omega
    have e:colB d (.agg [.str s,.bool x,.int .i64 p]) = (nameB s && (!x || d)):=rfl
    simp only [Tr.val_ok,Tr.val_cnd,Tr.val_chk,cnd_i,chk_i,Bool.and_eq_true,decide_eq_true_eq,hb,e,if_true]
    cases nameB s <;> cases x <;> cases d <;> rfl
    
  · simp [Tr.val_no] at h
theorem loop242_0 (F:Nat) {R:Type} (B:Nat) (l:List DV) (n:Int) (d:Bool) (K:Ex → St → Option R) (g0:n = l.length) (g1:l.length ≤ big) (g2:B ≤ big) (g3:l.all (okCol B) = true) :
    ∀ (m:Nat) (i:Int),0 ≤ i → i ≤ l.length → (l.length - i).toNat < m →
      loopK (pcodeK (ctx F [(207,.eff (frameT (S207 B)))]) noL (lp Tryz.f242 0)) 1 (allBut 19 [0,1,7,8] ++ temps (lp Tryz.f242 0)) (allBut 19 [4]) m
        ⟨slots 19 [(0,.d (.slc 3 l)),(1,.func 207 [.ptr 0 0]),(7,.d (.int .i64 n)),(8,.d (.int .i64 i))],[.cells [.d (.bool d)]]⟩ K =
      Tr.run (.cnd (decide (0 ≤ idxP (fun x => !colB d x) (l.drop i.toNat) i)) (.ok (.ret,⟨slots 19 [(4,.d (.int .i64 (idxP (fun x => !colB d x) (l.drop i.toNat) i)))],[.cells [.d (.bool d)]]⟩)) (.ok (.exit 0,⟨slots 19 [],[.cells [.d (.bool d)]]⟩))) (fun p => K p.1 p.2):=by
  intro m
  induction m with
  | zero => intro i; intros; omega
  | succ m ih =>
    intro i h0 h1 hm
    rw [loopK_succ,round242_0]
    unfold big at g1
    simp only [Tr.run,rnd,cnd_i,chk_i,Bool.and_eq_true,decide_eq_true_eq]
    by_cases hi:i < n
    · have w:IntKind.i64.wrap (i + 1) = i + 1:=wrap64 (by omega) (by omega)
      have hx:=all_gt (by assumption:l.all (okCol B) = true) (i:=i) (by omega) (by omega)
      have ht:=okCol_fits hx
      rw [okCol_view hx]
      have ih1:=ih (i + 1) (by omega) (by omega) (by omega)
      simp only [Tr.run,cnd_i,decide_eq_true_eq] at ih1
      rw [idx_drop (by omega) (by omega)]
      clear ih
      rw [ht,hx]
      grind
    · have:l.drop i.toNat = []:=List.drop_of_length_le (by omega)
      rw [this]
      simp [hi,idxP]
theorem lps242 (F:Nat) (hF:F = FU) (B:Nat):LpsOk (ctx F [(207,.eff (frameT (S207 B)))]) (L242 B) (loopsOf (body Tryz.f242)):=by
  subst hF
  refine lps_one (c:=lp Tryz.f242 0) rfl (by kernel_rfl) fun R st K r h => ?_
  unfold T242_0 at h
  cases hs:shape 19 [0,1,7,8] st.slots with
  | false => rw [hs] at h; simp [Tr.run] at h
  | true =>
  rw [hs] at h
  simp only [cond_true] at h
  have he:=shape_eq hs
  obtain ⟨sl0,H⟩:=st
  dsimp only at h he ⊢
  split at h
  · rename_i l n i d g0_ g1_ g2_ g3_
    simp only [List.map_cons,List.map_nil,g0_,g1_,g2_,g3_] at he
    subst he
    simp only [Tr.run] at h
    cases hc:(decide (n = l.length) && decide (l.length ≤ big) && decide (B ≤ big) && decide (l.all (okCol B) = true) && decide (0 ≤ i) && decide (i ≤ l.length)) with
    | false => rw [hc] at h; simp at h
    | true =>
    rw [hc] at h
    simp only [Bool.and_eq_true,decide_eq_true_eq] at hc
    obtain ⟨⟨⟨⟨⟨c0,c1⟩,c2⟩,c3⟩,c4⟩,c5⟩:=hc
    refine (loop242_0 FU B l n d K c0 c1 c2 c3 FU i c4 c5 (by unfold FU; unfold big at *; omega)).trans ?_
    rw [← h]
    rfl
  · simp [Tr.run] at h
theorem ok242 (W0:World) (hW:Laid W0) (B:Nat):EKOk Tryz.prog W0 242 (.eff (frameT (S242 B))):=by
  refine eff_of (tyOk FU [(207,.eff (frameT (S207 B)))]) (look_ok (all_cons (ok207 W0 hW B) all_nil)) mixed fn242 (lps242 FU rfl B) fun args H r h => ?_
  unfold S242 at h
  split at h
  · rename_i l d
    refine (run242 FU B l d).trans (Eq.trans ?_ h)
    simp only [Tr.val_chk,chk_some,Bool.and_eq_true,decide_eq_true_eq] at h
    obtain ⟨⟨c0,c1⟩,c2⟩:=h.1
    clear h
    have e:=idxP_ge (fun x => !colB d x) l 0 (by omega)
    simp only [Tr.val_ok,Tr.val_cnd,Tr.val_chk,cnd_i,chk_i,Bool.and_eq_true,decide_eq_true_eq,List.drop_zero,Int.toNat_zero]
    grind
  · simp [Tr.val_no] at h
theorem ok208 (W0:World) (hW:Laid W0) (B:Nat):EKOk Tryz.prog W0 208 (.eff (frameT (S208 B))):=by
  refine eff_of (tyOk FU [(242,.eff (frameT (S242 B)))]) (look_ok (all_cons (ok242 W0 hW B) all_nil)) mixed fn208 (lpsOk_no _ _) fun args H r h => ?_
  unfold S208 at h
  split at h
  · rename_i l d
    refine (run208 FU B l d).trans (Eq.trans ?_ h)
    simp only [Tr.val_chk,chk_some,Bool.and_eq_true,decide_eq_true_eq] at h
    obtain ⟨⟨c0,c1⟩,c2⟩:=h.1
    clear h
    simp only [Tr.val_ok,Tr.val_chk,idxP_any _ l 0 (Int.le_refl 0)]
  · simp [Tr.val_no] at h
theorem ok148 (W0:World) (hW:Laid W0) (B:Nat):EKOk Tryz.prog W0 148 (.pure (S148 B)):=by
  refine pure_of (tyOk FU [(208,.eff (frameT (S208 B)))]) (look_ok (all_cons (ok208 W0 hW B) all_nil)) mixed fn148 (lpsOk_no _ _) fun args r h => ?_
  unfold S148 at h
  split at h
  · rename_i l a b d
    refine (run148 FU B l a b d).trans (Eq.trans ?_ h)
    simp only [Tr.val_chk,chk_some,Bool.and_eq_true,decide_eq_true_eq] at h
    obtain ⟨⟨c0,c1⟩,c2⟩:=h.1
    clear h
    simp only [Tr.val_ok,Tr.val_cnd,Tr.val_chk,cnd_i,chk_i,Bool.and_eq_true,decide_eq_true_eq,c0,c1,c2,and_self,if_true,decide_true,colsB,← any_not]
    grind
  · simp [Tr.val_no] at h
theorem loop195_0 (F:Nat) {R:Type} (B:Nat) (l:List DV) (a:Int) (b:Int) (d:Bool) (K:Ex → St → Option R) (g0:l.length ≤ big) (g1:B ≤ big) (g2:l.all (okCol B) = true) :
    ∀ (m:Nat) (i:Int),0 ≤ i → i ≤ l.length → (l.length - i).toNat < m →
      loopK (pcodeK (ctx F [(36,.pure S35)]) noL (lp Tryz.f195 0)) 0 (allBut 44 [0,1,2,3,9] ++ temps (lp Tryz.f195 0)) (allBut 44 [0,1,2,8]) m
        ⟨slots 44 [(0,.d (.slc 3 l)),(1,.d (.int .i64 a)),(2,.d (.int .i64 b)),(3,.d (.bool d)),(9,.d (.int .i64 i))],[]⟩ K =
      Tr.run (.cnd ((l.drop i.toNat).all (colB d)) (.ok (.exit 0,⟨slots 44 [(0,.d (.slc 3 l)),(1,.d (.int .i64 a)),(2,.d (.int .i64 b))],[]⟩)) (.ok (.ret,⟨slots 44 [(0,.d (.slc 3 l)),(1,.d (.int .i64 a)),(2,.d (.int .i64 b)),(8,.d (.bool false))],[]⟩))) (fun p => K p.1 p.2):=by
  intro m
  induction m with
  | zero => intro i; intros; omega
  | succ m ih =>
    intro i h0 h1 hm
    rw [loopK_succ,round195_0]
    unfold big at g0
    simp only [Tr.run,rnd,cnd_i,chk_i,Bool.and_eq_true,decide_eq_true_eq]
    by_cases hi:i < l.length
    · have w:IntKind.i64.wrap (i + 1) = i + 1:=wrap64 (by omega) (by omega)
      have hx:=all_gt g2 (i:=i) (by omega) (by omega)
      have ht:=okCol_fits hx
      have hb:(atS l i.toNat 0).length ≤ big:=by
        obtain ⟨s,x,p,e,h1⟩:=okCol_inv hx
        rw [atS_c,e]; exact Nat.le_trans h1 g1
      have e:colB d (gt .nili l i.toNat) = (nameB (atS l i.toNat 0) && (!atB l i.toNat 1 || d)):=rfl
      have ih1:=ih (i + 1)
      simp only [Tr.run,cnd_i] at ih1
      rw [all_drop (by omega) (by omega),e]
      clear ih
      rw [ht]
      grind
    · have:l.drop i.toNat = []:=List.drop_of_length_le (by omega)
      rw [this]
      simp [hi]
theorem lps195 (F:Nat) (hF:F = FU) (B:Nat):LpsOk (ctx F [(36,.pure S35)]) (L195 B) (loopsOf (body Tryz.f195)):=by
  subst hF
  refine lps_one (c:=lp Tryz.f195 0) rfl (by kernel_rfl) fun R st K r h => ?_
  unfold T195_0 at h
  cases hs:shape 44 [0,1,2,3,9] st.slots with
  | false => rw [hs] at h; simp [Tr.run] at h
  | true =>
  rw [hs] at h
  simp only [cond_true] at h
  have he:=shape_eq hs
  obtain ⟨sl0,H⟩:=st
  dsimp only at h he ⊢
  split at h
  · rename_i l a b d i g0_ g1_ g2_ g3_ g4_
    simp only [List.map_cons,List.map_nil,g0_,g1_,g2_,g3_,g4_] at he
    subst he
    simp only [Tr.run] at h
    cases hc:(decide (l.length ≤ big) && decide (B ≤ big) && decide (l.all (okCol B) = true) && decide (0 ≤ i) && decide (i ≤ l.length)) with
    | false => rw [hc] at h; simp at h
    | true =>
    rw [hc] at h
    simp only [Bool.and_eq_true,decide_eq_true_eq] at hc
    obtain ⟨⟨⟨⟨c0,c1⟩,c2⟩,c3⟩,c4⟩:=hc
    refine (loop195_0 FU B l a b d K c0 c1 c2 FU i c3 c4 (by unfold FU; unfold big at *; omega)).trans ?_
    rw [← h]
    rfl
  · simp [Tr.run] at h
theorem ok195 (W0:World) (B:Nat):EKOk Tryz.prog W0 195 (.pure (S148 B)):=by
  refine pure_of (tyOk FU [(36,.pure S35)]) (look_ok (all_cons (ok36 W0) all_nil)) mixed fn195 (lps195 FU rfl B) fun args r h => ?_
  unfold S148 at h
  split at h
  · rename_i l a b d
    refine (run195 FU B l a b d).trans (Eq.trans ?_ h)
    simp only [Tr.val_chk,chk_some,Bool.and_eq_true,decide_eq_true_eq] at h
    obtain ⟨⟨c0,c1⟩,c2⟩:=h.1
    clear h
    simp only [Tr.val_ok,Tr.val_cnd,Tr.val_chk,cnd_i,chk_i,Bool.and_eq_true,decide_eq_true_eq,List.drop_zero,Int.toNat_zero,c0,c1,c2,colsB]
    have q:(0:Int) ≤ l.length:=by omega
    grind
    
  · simp [Tr.val_no] at h
theorem loop203_0 (F:Nat) {R:Type} (l:List DV) (k:Int) (n:Int) (K:Ex → St → Option R) (g0:n = l.length) (g1:l.length ≤ big) (g2:l.all okInt = true) :
    ∀ (m:Nat) (i:Int),0 ≤ i → i ≤ l.length → (l.length - i).toNat < m →
      loopK (pcodeK (ctx F []) noL (lp Tryz.f203 0)) 0 (allBut 19 [0,1,7,8] ++ temps (lp Tryz.f203 0)) (allBut 19 [4]) m
        ⟨slots 19 [(0,.d (.slc 1 l)),(1,.d (.int .i64 k)),(7,.d (.int .i64 n)),(8,.d (.int .i64 i))],[]⟩ K =
      Tr.run (.cnd (decide (0 ≤ idxP (fun x => decide (k = cI x 0)) (l.drop i.toNat) i)) (.ok (.ret,⟨slots 19 [(4,.d (.int .i64 (idxP (fun x => decide (k = cI x 0)) (l.drop i.toNat) i)))],[]⟩)) (.ok (.exit 0,⟨slots 19 [],[]⟩))) (fun p => K p.1 p.2):=by
  intro m
  induction m with
  | zero => intro i; intros; omega
  | succ m ih =>
    intro i h0 h1 hm
    rw [loopK_succ,round203_0]
    unfold big at g1
    simp only [Tr.run,rnd,cnd_i,chk_i,Bool.and_eq_true,decide_eq_true_eq]
    by_cases hi:i < n
    · have w:IntKind.i64.wrap (i + 1) = i + 1:=wrap64 (by omega) (by omega)
      have hx:=all_gt g2 (i:=i) (by omega) (by omega)
      have ht:=okInt_fits hx
      have ih1:=ih (i + 1) (by omega) (by omega) (by omega)
      simp only [Tr.run,cnd_i,decide_eq_true_eq] at ih1
      rw [idx_drop (by omega) (by omega)]
      clear ih
      rw [ht,atI_c]
      grind
    · have:l.drop i.toNat = []:=List.drop_of_length_le (by omega)
      rw [this]
      simp [hi,idxP]
theorem lps203 (F:Nat) (hF:F = FU):LpsOk (ctx F []) L203 (loopsOf (body Tryz.f203)):=by
  subst hF
  refine lps_one (c:=lp Tryz.f203 0) rfl (by kernel_rfl) fun R st K r h => ?_
  unfold T203_0 at h
  cases hs:shape 19 [0,1,7,8] st.slots with
  | false => rw [hs] at h; simp [Tr.run] at h
  | true =>
  rw [hs] at h
  simp only [cond_true] at h
  have he:=shape_eq hs
  obtain ⟨sl0,H⟩:=st
  dsimp only at h he ⊢
  split at h
  · rename_i l k n i g0_ g1_ g2_ g3_
    simp only [List.map_cons,List.map_nil,g0_,g1_,g2_,g3_] at he
    subst he
    simp only [Tr.run] at h
    cases hc:(decide (n = l.length) && decide (l.length ≤ big) && decide (l.all okInt = true) && decide (0 ≤ i) && decide (i ≤ l.length)) with
    | false => rw [hc] at h; simp at h
    | true =>
    rw [hc] at h
    simp only [Bool.and_eq_true,decide_eq_true_eq] at hc
    obtain ⟨⟨⟨⟨c0,c1⟩,c2⟩,c3⟩,c4⟩:=hc
    refine (loop203_0 FU l k n K c0 c1 c2 FU i c3 c4 (by unfold FU; unfold big at *; omega)).trans ?_
    rw [← h]
    rfl
  · simp [Tr.run] at h
theorem ok203 (W0:World):EKOk Tryz.prog W0 203 (.pure S203):=by
  refine pure_of (tyOk FU []) (look_ok all_nil) mixed fn203 (lps203 FU rfl) fun args r h => ?_
  unfold S203 at h
  split at h
  · rename_i l k
    refine (run203 FU l k).trans (Eq.trans ?_ h)
    simp only [Tr.val_chk,chk_some,Bool.and_eq_true,decide_eq_true_eq] at h
    obtain ⟨c0,c1⟩:=h.1
    clear h
    have e:=idxP_ge (fun x => decide (k = cI x 0)) l 0 (by omega)
    simp only [Tr.val_ok,Tr.val_cnd,Tr.val_chk,cnd_i,chk_i,Bool.and_eq_true,decide_eq_true_eq,List.drop_zero,Int.toNat_zero]
    grind
  · simp [Tr.val_no] at h
theorem ok143 (W0:World):EKOk Tryz.prog W0 143 (.pure S143):=by
  refine pure_of (tyOk FU [(203,.pure S203)]) (look_ok (all_cons (ok203 W0) all_nil)) mixed fn143 (lpsOk_no _ _) fun args r h => ?_
  unfold S143 at h
  split at h
  · rename_i l k
    refine (run143 FU l k).trans (Eq.trans ?_ h)
    simp only [Tr.val_chk,chk_some,Bool.and_eq_true,decide_eq_true_eq] at h
    obtain ⟨c0,c1⟩:=h.1
    clear h
    simp only [Tr.val_ok,Tr.val_chk,idxP_any _ l 0 (Int.le_refl 0)]
  · simp [Tr.val_no] at h
theorem ok142 (W0:World):EKOk Tryz.prog W0 142 (.eff (frameT S142)):=by
  refine eff_of (tyOk FU [(143,.pure S143)]) (look_ok (all_cons (ok143 W0) all_nil)) mixed fn142 (lpsOk_no _ _) fun args H r h => ?_
  unfold S142 at h
  split at h
  · rename_i l k f t path name b c a ti p1 b2 cm2 a2 ti2 p2 p3
    refine (run142 FU l k f t path name b c a ti p1 b2 cm2 a2 ti2 p2 p3).trans (Eq.trans ?_ h)
    rfl
  · simp [Tr.val_no] at h
end Go.PS
end

section
namespace Go.PS
open Go.Proofs
set_option maxRecDepth 100000
theorem fn78:FnOk Tryz.prog 78 105 [.tmp 2] (body Tryz.f78):=⟨Tryz.f78,Tryz.func78,bodySome _ (by kernel_rfl),by kernel_rfl,by kernel_rfl,by kernel_rfl,by kernel_rfl⟩
theorem run78 (F:Nat) (k f t:Int) (path name b:Str) (c:Int) (a:Bool) (ti p1:Int) (b2:Str) (cm2:Int) (a2:Bool) (ti2 p2 p3:Int):runP (ctx F
 [(35,.pure S35),(142,.eff (frameT S142)),(144,.pure S144),(145,.pure S145u)]) noL 105 [.tmp 2] (body Tryz.f78) [.d (.agg [.int .i64 k,.int .i64 f,.int
 .i64 t,.str path,.str name,.str b,.int .i64 c,.bool a,.int .i64 ti,.int .i64 p1,.str b2,.int .i64 cm2,.bool a2,.int .i64 ti2,.int .i64 p2,.int .i64
 p3])] = Tr.val (.cnd (!([DV.int .i64 2,.int .i64 3]).any fun x ↦ decide (k = cI x 0)) (.cnd (!decide (f = 0)) (.ok (PV.d (.bool false))) (.cnd (!([DV.int .i64
 3]).any fun x ↦ decide (k = cI x 0)) (.cnd (!decide (t = 0)) (.ok (PV.d (.bool false))) (.cnd (decide (k = 9)) (.cnd (decide (path = ([]:List UInt8))) (.cnd
 (decide (b = []) && (decide (c = 0) && (a == false && (decide (ti = 0) && (decide (0 = 0) && true))))) (.cnd (decide (b2 = []) && (decide (cm2 = 0) && (a2 ==
 false && (decide (ti2 = 0) && (decide (0 = 0) && true))))) (.chk (decide (List.length name ≤ big)) (.ok (PV.d (.bool (nameB name))))) (.ok (PV.d (.bool false))))
 (.ok (PV.d (.bool false)))) (.ok (PV.d (.bool false)))) (.cnd (decide (k < 1)) (.ok (PV.d (.bool false))) (.cnd (decide (k > 9)) (.ok (PV.d (.bool false))) (.cnd
 (!decide (name = ([]:List UInt8))) (.ok (PV.d (.bool false))) (.chk (decide (List.length b ≤ big)) (.cnd (!placeB b c a ti) (.ok (PV.d (.bool false))) (.cnd
 (([DV.int .i64 4]).any fun x ↦ decide (k = cI x 0)) (.cnd (decide (b2 = []) && (decide (cm2 = 0) && (a2 == false && (decide (ti2 = 0) && (decide (0 = 0) &&
 true))))) (.chk (decide (List.length path ≤ big)) (.ok (PV.d (.bool (decide (rightE 2 0 path = 0)))))) (.ok (PV.d (.bool false)))) (.cnd (([DV.int .i64 5,.int
 .i64 8]).any fun x ↦ decide (k = cI x 0)) (.cnd (decide (path = ([]:List UInt8))) (.chk (decide (List.length b2 ≤ big)) (.ok (PV.d (.bool (placeB b2 cm2 a2
 ti2))))) (.ok (PV.d (.bool false)))) (.cnd (decide (path = ([]:List UInt8))) (.ok (PV.d (.bool (decide (b2 = []) && (decide (cm2 = 0) && (a2 == false &&
 (decide (ti2 = 0) && (decide (0 = 0) && true)))))))) (.ok (PV.d (.bool false))))))))))))) (.cnd (decide (k = 9)) (.cnd (decide (path = ([]:List UInt8))) (.cnd
 (decide (b = []) && (decide (c = 0) && (a == false && (decide (ti = 0) && (decide (0 = 0) && true))))) (.cnd (decide (b2 = []) && (decide (cm2 = 0) && (a2 ==
 false && (decide (ti2 = 0) && (decide (0 = 0) && true))))) (.chk (decide (List.length name ≤ big)) (.ok (PV.d (.bool (nameB name))))) (.ok (PV.d (.bool false))))
 (.ok (PV.d (.bool false)))) (.ok (PV.d (.bool false)))) (.cnd (decide (k < 1)) (.ok (PV.d (.bool false))) (.cnd (decide (k > 9)) (.ok (PV.d (.bool false))) (.cnd
 (!decide (name = ([]:List UInt8))) (.ok (PV.d (.bool false))) (.chk (decide (List.length b ≤ big)) (.cnd (!placeB b c a ti) (.ok (PV.d (.bool false))) (.cnd
 (([DV.int .i64 4]).any fun x ↦ decide (k = cI x 0)) (.cnd (decide (b2 = []) && (decide (cm2 = 0) && (a2 == false && (decide (ti2 = 0) && (decide (0 = 0) &&
 true))))) (.chk (decide (List.length path ≤ big)) (.ok (PV.d (.bool (decide (rightE 2 0 path = 0)))))) (.ok (PV.d (.bool false)))) (.cnd (([DV.int .i64 5,.int
 .i64 8]).any fun x ↦ decide (k = cI x 0)) (.cnd (decide (path = ([]:List UInt8))) (.chk (decide (List.length b2 ≤ big)) (.ok (PV.d (.bool (placeB b2 cm2 a2
 ti2))))) (.ok (PV.d (.bool false)))) (.cnd (decide (path = ([]:List UInt8))) (.ok (PV.d (.bool (decide (b2 = []) && (decide (cm2 = 0) && (a2 == false &&
 (decide (ti2 = 0) && (decide (0 = 0) && true)))))))) (.ok (PV.d (.bool false)))))))))))))) (.cnd (!([DV.int .i64 3]).any fun x ↦ decide (k = cI x 0)) (.cnd
 (!decide (t = 0)) (.ok (PV.d (.bool false))) (.cnd (decide (k = 9)) (.cnd (decide (path = ([]:List UInt8))) (.cnd (decide (b = []) && (decide (c = 0) && (a ==
 false && (decide (ti = 0) && (decide (0 = 0) && true))))) (.cnd (decide (b2 = []) && (decide (cm2 = 0) && (a2 == false && (decide (ti2 = 0) && (decide (0 = 0) &&
 true))))) (.chk (decide (List.length name ≤ big)) (.ok (PV.d (.bool (nameB name))))) (.ok (PV.d (.bool false)))) (.ok (PV.d (.bool false)))) (.ok (PV.d (.bool
 false)))) (.cnd (decide (k < 1)) (.ok (PV.d (.bool false))) (.cnd (decide (k > 9)) (.ok (PV.d (.bool false))) (.cnd (!decide (name = ([]:List UInt8))) (.ok
 (PV.d (.bool false))) (.chk (decide (List.length b ≤ big)) (.cnd (!placeB b c a ti) (.ok (PV.d (.bool false))) (.cnd (([DV.int .i64 4]).any fun x ↦ decide (k =
 cI x 0)) (.cnd (decide (b2 = []) && (decide (cm2 = 0) && (a2 == false && (decide (ti2 = 0) && (decide (0 = 0) && true))))) (.chk (decide (List.length path ≤
 big)) (.ok (PV.d (.bool (decide (rightE 2 0 path = 0)))))) (.ok (PV.d (.bool false)))) (.cnd (([DV.int .i64 5,.int .i64 8]).any fun x ↦ decide (k = cI x 0))
 (.cnd (decide (path = ([]:List UInt8))) (.chk (decide (List.length b2 ≤ big)) (.ok (PV.d (.bool (placeB b2 cm2 a2 ti2))))) (.ok (PV.d (.bool false)))) (.cnd
 (decide (path = ([]:List UInt8))) (.ok (PV.d (.bool (decide (b2 = []) && (decide (cm2 = 0) && (a2 == false && (decide (ti2 = 0) && (decide (0 = 0) &&
 true)))))))) (.ok (PV.d (.bool false))))))))))))) (.cnd (decide (k = 9)) (.cnd (decide (path = ([]:List UInt8))) (.cnd (decide (b = []) && (decide (c = 0) &&
 (a == false && (decide (ti = 0) && (decide (0 = 0) && true))))) (.cnd (decide (b2 = []) && (decide (cm2 = 0) && (a2 == false && (decide (ti2 = 0) && (decide (0 =
 0) && true))))) (.chk (decide (List.length name ≤ big)) (.ok (PV.d (.bool (nameB name))))) (.ok (PV.d (.bool false)))) (.ok (PV.d (.bool false)))) (.ok (PV.d
 (.bool false)))) (.cnd (decide (k < 1)) (.ok (PV.d (.bool false))) (.cnd (decide (k > 9)) (.ok (PV.d (.bool false))) (.cnd (!decide (name = ([]:List UInt8)))
 (.ok (PV.d (.bool false))) (.chk (decide (List.length b ≤ big)) (.cnd (!placeB b c a ti) (.ok (PV.d (.bool false))) (.cnd (([DV.int .i64 4]).any fun x ↦ decide
 (k = cI x 0)) (.cnd (decide (b2 = []) && (decide (cm2 = 0) && (a2 == false && (decide (ti2 = 0) && (decide (0 = 0) && true))))) (.chk (decide (List.length path ≤
 big)) (.ok (PV.d (.bool (decide (rightE 2 0 path = 0)))))) (.ok (PV.d (.bool false)))) (.cnd (([DV.int .i64 5,.int .i64 8]).any fun x ↦ decide (k = cI x 0))
 (.cnd (decide (path = ([]:List UInt8))) (.chk (decide (List.length b2 ≤ big)) (.ok (PV.d (.bool (placeB b2 cm2 a2 ti2))))) (.ok (PV.d (.bool false)))) (.cnd
 (decide (path = ([]:List UInt8))) (.ok (PV.d (.bool (decide (b2 = []) && (decide (cm2 = 0) && (a2 == false && (decide (ti2 = 0) && (decide (0 = 0) &&
 true)))))))) (.ok (PV.d (.bool false)))))))))))))):=by kernel_rfl
end Go.PS
end

section
namespace Go.PS
open Go.Proofs
set_option linter.all false
theorem ok78 (W0:World) (hW:Laid W0):EKOk Tryz.prog W0 78 (.pure S78):=by
  refine pure_of (tyOk FU [(35,.pure S35),(142,.eff (frameT S142)),(144,.pure S144),(145,.pure S145u)]) (look_ok (all_cons (ok35 W0 hW) (all_cons (ok142 W0) (all_cons (ok144 W0 hW) (all_cons (ok145u W0 hW) all_nil))))) mixed fn78 (lpsOk_no _ _) fun args r h => ?_
  unfold S78 at h
  split at h
  · rename_i k f t path name b c a ti p1 b2 cm2 a2 ti2 p2 p3
    refine (run78 FU k f t path name b c a ti p1 b2 cm2 a2 ti2 p2 p3).trans (Eq.trans ?_ h)
    simp only [Tr.val_chk,chk_some,Bool.and_eq_true,decide_eq_true_eq] at h
    obtain ⟨⟨⟨c0,c1⟩,c2⟩,c3⟩:=h.1
    clear h
    have ci:∀ n,cI (.int .i64 n) 0 = n:=fun _ => rfl
    have er:rightE 2 0 path = 0 ↔ rightR 2 0 path = true:=by unfold rightE; split <;> simp_all
    simp only [Tr.val_ok,Tr.val_cnd,Tr.val_chk,cnd_i,chk_i,Bool.and_eq_true,decide_eq_true_eq,c0,c1,c2,c3,if_true,List.any_cons,List.any_nil,ci,Bool.or_false]
    unfold srcB noneB
    generalize placeB b c a ti = y1
    generalize placeB b2 cm2 a2 ti2 = y2
    generalize nameB name = y6
    simp only [Bool.and_assoc]
    have hk:k = 1 ∨ k = 2 ∨ k = 3 ∨ k = 4 ∨ k = 5 ∨ k = 6 ∨ k = 7 ∨ k = 8 ∨ k = 9 ∨ (k < 1 ∨ 9 < k):=by omega
    rcases hk with rfl | rfl | rfl | rfl | rfl | rfl | rfl | rfl | rfl | hk <;> (try simp only [Int.reduceEq,Int.reduceLT,decide_true,decide_false,Bool.or_true,Bool.or_false,Bool.or_self,Bool.not_true,Bool.not_false,if_true,if_false,reduceCtorEq,Bool.false_eq_true,Bool.true_eq_false]) <;> cases a <;> cases a2 <;> (try simp only [reduceCtorEq,decide_true,decide_false,Bool.and_true,Bool.true_and,Bool.and_false,Bool.false_and,Bool.not_true,Bool.not_false,if_true,if_false,and_true,true_and,and_false,false_and,beq_self_eq_true,Bool.beq_false]) <;> grind
    
  · simp [Tr.val_no] at h
end Go.PS
end

section
namespace Go.PS
open Go.Proofs
set_option maxRecDepth 100000
theorem fn127:FnOk Tryz.prog 127 98 [.tmp 2] (body Tryz.f127):=⟨Tryz.f127,Tryz.func127,bodySome _ (by kernel_rfl),by kernel_rfl,by kernel_rfl,by kernel_rfl,by kernel_rfl⟩
theorem run127 (F:Nat) (k f t:Int) (path name b:Str) (c:Int) (a:Bool) (ti p1:Int) (b2:Str) (cm2:Int) (a2:Bool) (ti2 p2 p3:Int):runP (ctx F
 [(36,.pure S35),(154,.pure S154),(196,.pure S196),(197,.pure S144)]) noL 98 [.tmp 2] (body Tryz.f127) [.d (.agg [.int .i64 k,.int .i64 f,.int .i64 t,
 .str path,.str name,.str b,.int .i64 c,.bool a,.int .i64 ti,.int .i64 p1,.str b2,.int .i64 cm2,.bool a2,.int .i64 ti2,.int .i64 p2,.int .i64 p3])] =
 Tr.val (.cnd (decide (k = 1)) (.cnd (!decide (f = 0)) (.ok (PV.d (.bool false))) (.cnd (!decide (t = 0)) (.ok (PV.d (.bool false))) (.cnd (!decide (path = ([] :
 List UInt8))) (.ok (PV.d (.bool false))) (.cnd (decide (name = ([]:List UInt8))) (.chk (decide (List.length b ≤ big)) (.cnd (placeB b c a ti) (.ok (PV.d (.bool
 (noneB b2 cm2 a2 ti2)))) (.ok (PV.d (.bool false))))) (.ok (PV.d (.bool false))))))) (.cnd (decide (k = 6)) (.cnd (!decide (f = 0)) (.ok (PV.d (.bool false)))
 (.cnd (!decide (t = 0)) (.ok (PV.d (.bool false))) (.cnd (!decide (path = ([]:List UInt8))) (.ok (PV.d (.bool false))) (.cnd (decide (name = ([]:List
 UInt8))) (.chk (decide (List.length b ≤ big)) (.cnd (placeB b c a ti) (.ok (PV.d (.bool (noneB b2 cm2 a2 ti2)))) (.ok (PV.d (.bool false))))) (.ok (PV.d (.bool
 false))))))) (.cnd (decide (k = 7)) (.cnd (!decide (f = 0)) (.ok (PV.d (.bool false))) (.cnd (!decide (t = 0)) (.ok (PV.d (.bool false))) (.cnd (!decide (path =
 ([]:List UInt8))) (.ok (PV.d (.bool false))) (.cnd (decide (name = ([]:List UInt8))) (.chk (decide (List.length b ≤ big)) (.cnd (placeB b c a ti) (.ok (PV.d
 (.bool (noneB b2 cm2 a2 ti2)))) (.ok (PV.d (.bool false))))) (.ok (PV.d (.bool false))))))) (.cnd (decide (k = 2)) (.cnd (!decide (t = 0)) (.ok (PV.d (.bool
 false))) (.cnd (!decide (path = ([]:List UInt8))) (.ok (PV.d (.bool false))) (.cnd (decide (name = ([]:List UInt8))) (.chk (decide (List.length b ≤ big))
 (.cnd (placeB b c a ti) (.ok (PV.d (.bool (noneB b2 cm2 a2 ti2)))) (.ok (PV.d (.bool false))))) (.ok (PV.d (.bool false)))))) (.cnd (decide (k = 3)) (.cnd
 (!decide (path = ([]:List UInt8))) (.ok (PV.d (.bool false))) (.cnd (decide (name = ([]:List UInt8))) (.chk (decide (List.length b ≤ big)) (.cnd (placeB b c
 a ti) (.ok (PV.d (.bool (noneB b2 cm2 a2 ti2)))) (.ok (PV.d (.bool false))))) (.ok (PV.d (.bool false))))) (.cnd (decide (k = 4)) (.cnd (!decide (f = 0)) (.ok
 (PV.d (.bool false))) (.cnd (!decide (t = 0)) (.ok (PV.d (.bool false))) (.chk (decide (List.length path ≤ big)) (.cnd (!rightR 2 0 path) (.ok (PV.d (.bool
 false))) (.cnd (decide (name = ([]:List UInt8))) (.chk (decide (List.length b ≤ big)) (.cnd (placeB b c a ti) (.ok (PV.d (.bool (noneB b2 cm2 a2 ti2)))) (.ok
 (PV.d (.bool false))))) (.ok (PV.d (.bool false)))))))) (.cnd (decide (k = 5)) (.cnd (!decide (f = 0)) (.ok (PV.d (.bool false))) (.cnd (!decide (t = 0)) (.ok
 (PV.d (.bool false))) (.cnd (!decide (path = ([]:List UInt8))) (.ok (PV.d (.bool false))) (.cnd (decide (name = ([]:List UInt8))) (.chk (decide (List.length
 b ≤ big)) (.cnd (placeB b c a ti) (.chk (decide (List.length b2 ≤ big)) (.cnd (placeB b2 cm2 a2 ti2) (.ok (PV.d (.bool true))) (.ok (PV.d (.bool false))))) (.ok
 (PV.d (.bool false))))) (.ok (PV.d (.bool false))))))) (.cnd (decide (k = 8)) (.cnd (!decide (f = 0)) (.ok (PV.d (.bool false))) (.cnd (!decide (t = 0)) (.ok
 (PV.d (.bool false))) (.cnd (!decide (path = ([]:List UInt8))) (.ok (PV.d (.bool false))) (.cnd (decide (name = ([]:List UInt8))) (.chk (decide (List.length
 b ≤ big)) (.cnd (placeB b c a ti) (.chk (decide (List.length b2 ≤ big)) (.cnd (placeB b2 cm2 a2 ti2) (.ok (PV.d (.bool true))) (.ok (PV.d (.bool false))))) (.ok
 (PV.d (.bool false))))) (.ok (PV.d (.bool false))))))) (.cnd (decide (k = 9)) (.cnd (!decide (f = 0)) (.ok (PV.d (.bool false))) (.cnd (!decide (t = 0)) (.ok
 (PV.d (.bool false))) (.cnd (!decide (path = ([]:List UInt8))) (.ok (PV.d (.bool false))) (.chk (decide (List.length name ≤ big)) (.cnd (nameB name) (.cnd
 (noneB b c a ti) (.ok (PV.d (.bool (noneB b2 cm2 a2 ti2)))) (.ok (PV.d (.bool false)))) (.ok (PV.d (.bool false)))))))) (.ok (PV.d (.bool false)))))))))))):=by
 kernel_rfl
end Go.PS
end

section
namespace Go.PS
open Go.Proofs
set_option linter.all false
theorem ok127 (W0:World):EKOk Tryz.prog W0 127 (.pure S78):=by
  refine pure_of (tyOk FU [(36,.pure S35),(154,.pure S154),(196,.pure S196),(197,.pure S144)]) (look_ok (all_cons (ok36 W0) (all_cons (ok154 W0) (all_cons (ok196 W0) (all_cons (ok197 W0) all_nil))))) mixed fn127 (lpsOk_no _ _) fun args r h => ?_
  unfold S78 at h
  split at h
  · rename_i k f t path name b c a ti p1 b2 cm2 a2 ti2 p2 p3
    refine (run127 FU k f t path name b c a ti p1 b2 cm2 a2 ti2 p2 p3).trans (Eq.trans ?_ h)
    simp only [Tr.val_chk,chk_some,Bool.and_eq_true,decide_eq_true_eq] at h
    obtain ⟨⟨⟨c0,c1⟩,c2⟩,c3⟩:=h.1
    clear h
    simp only [Tr.val_ok,Tr.val_cnd,Tr.val_chk,cnd_i,chk_i,Bool.and_eq_true,decide_eq_true_eq,c0,c1,c2,c3,if_true]
    unfold srcB
    generalize placeB b c a ti = y1
    generalize placeB b2 cm2 a2 ti2 = y2
    generalize noneB b c a ti = y3
    generalize noneB b2 cm2 a2 ti2 = y4
    generalize rightR 2 0 path = y5
    generalize nameB name = y6
    have hk:k = 1 ∨ k = 2 ∨ k = 3 ∨ k = 4 ∨ k = 5 ∨ k = 6 ∨ k = 7 ∨ k = 8 ∨ k = 9 ∨ (k < 1 ∨ 9 < k):=by omega
    rcases hk with rfl | rfl | rfl | rfl | rfl | rfl | rfl | rfl | rfl | hk <;> grind
  · simp [Tr.val_no] at h
end Go.PS
end

section
namespace Go.PS
open Go.Proofs
theorem stepFacts {B n:Nat} {l cols bys:List DV} {k:Int} {c:Str} {vk vn:Int} {vs:Str} {p:Int} (h1:okC B n (.agg [.int .i64 k,.str c,.int .i64 vk,.int .i64 vn,.str vs,.slc 7 l,.int .i64 p]) = true) (hB:B ≤ big) (h5:cols.length ≤ B) (h6:bys.length ≤ B) :
    cols.length ≤ big ∧ bys.length ≤ big ∧ (dep 16 (.agg [.int .i64 k,.str c,.int .i64 vk,.int .i64 vn,.str vs,.slc 7 l,.int .i64 p]) > 0 → condD n (.agg [.int .i64 k,.str c,.int .i64 vk,.int .i64 vn,.str vs,.slc 7 l,.int .i64 p]) = soundD n (.agg [.int .i64 k,.str c,.int .i64 vk,.int .i64 vn,.str vs,.slc 7 l,.int .i64 p])) ∧ 0 ≤ dep 16 (.agg [.int .i64 k,.str c,.int .i64 vk,.int .i64 vn,.str vs,.slc 7 l,.int .i64 p]) :=
  ⟨by omega,by omega,fun h => cond_sound B n 16 _ h1 (by omega),(dep_le 16 _).1⟩
def T146_0 (B n:Nat) (st:St):Tr (Ex × St) :=
  bif shape 19 [0,1,7,8] st.slots then
    match gt .undef st.slots 0,gt .undef st.slots 1,gt .undef st.slots 7,gt .undef st.slots 8,st.heap with
    | .d (.slc 12 l),.func 80 [],.d (.int .i64 z),.d (.int .i64 i),[] =>
      .chk (decide (z = l.length) && decide (l.length ≤ big) && decide (B ≤ big) && decide (l.all (okStep B n) = true) && decide (0 ≤ i) && decide (i ≤ l.length)) (.cnd (decide (0 ≤ idxP (fun x => !stepB n x) (l.drop i.toNat) i)) (.ok (.ret,⟨slots 19 [(4,.d (.int .i64 (idxP (fun x => !stepB n x) (l.drop i.toNat) i)))],[]⟩)) (.ok (.exit 0,⟨slots 19 [],[]⟩)))
    | _,_,_,_,_ => .no
  else .no
def L146 (B n:Nat):Lps:=fun i => bif Nat.beq i 2 then some (allBut 19 [0,1,7,8],allBut 19 [4],T146_0 B n) else none
def T60_0 (B n:Nat) (st:St):Tr (Ex × St) :=
  bif shape 27 [1,3] st.slots then
    match gt .undef st.slots 1,gt .undef st.slots 3,st.heap with
    | .ptr 0 0,.d (.int .i64 i),[.cells [.d (.int .i64 k),.d (.int .i64 f),.d (.int .i64 t),.d (.str path),.d (.str name),.d (.str b),.d (.int .i64 c),.d (.bool a),.d (.int .i64 ti),.d (.int .i64 p1),.d (.str b2),.d (.int .i64 cm2),.d (.bool a2),.d (.int .i64 ti2),.d (.int .i64 p2),.d (.int .i64 p3),.d (.slc 12 steps)]] =>
      .chk (decide (steps.length ≤ big) && decide (B ≤ big) && decide (steps.all (okStep B n) = true) && decide (0 ≤ i) && decide (i ≤ steps.length)) (.cnd ((steps.drop i.toNat).all (stepB n)) (.ok (.exit 0,⟨slots 27 [(1,.ptr 0 0)],[.cells [.d (.int .i64 k),.d (.int .i64 f),.d (.int .i64 t),.d (.str path),.d (.str name),.d (.str b),.d (.int .i64 c),.d (.bool a),.d (.int .i64 ti),.d (.int .i64 p1),.d (.str b2),.d (.int .i64 cm2),.d (.bool a2),.d (.int .i64 ti2),.d (.int .i64 p2),.d (.int .i64 p3),.d (.slc 12 steps)]]⟩)) (.ok (.ret,⟨slots 27 [(1,.ptr 0 0),(2,.d (.bool false))],[.cells [.d (.int .i64 k),.d (.int .i64 f),.d (.int .i64 t),.d (.str path),.d (.str name),.d (.str b),.d (.int .i64 c),.d (.bool a),.d (.int .i64 ti),.d (.int .i64 p1),.d (.str b2),.d (.int .i64 cm2),.d (.bool a2),.d (.int .i64 ti2),.d (.int .i64 p2),.d (.int .i64 p3),.d (.slc 12 steps)]]⟩)))
    | _,_,_ => .no
  else .no
def L60 (B n:Nat):Lps:=fun i => bif Nat.beq i 2 then some (allBut 27 [1,3],allBut 27 [1,2],T60_0 B n) else none
end Go.PS
end

section
namespace Go.PS
open Go.Proofs
set_option maxRecDepth 100000
theorem fn81:FnOk Tryz.prog 81 114 [.tmp 2] (body Tryz.f81):=⟨Tryz.f81,Tryz.func81,bodySome _ (by kernel_rfl),by kernel_rfl,by kernel_rfl,by kernel_rfl,by kernel_rfl⟩
theorem run81 (F:Nat) (B n:Nat) (sk:Int) (k:Int) (c:Str) (vk vn:Int) (vs:Str) (l:List DV) (p:Int) (cols bys:List DV) (m sp:Int):runP (ctx
 F [(33,.pure (S33 B n)),(147,.pure (S147 B n)),(148,.pure (S148 B))]) noL 114 [.tmp 2] (body Tryz.f81) [.d (.agg [.int .i64 sk,.int .i64 k,.str c,.int
 .i64 vk,.int .i64 vn,.str vs,.slc 7 l,.int .i64 p,.slc 3 cols,.slc 3 bys,.int .i64 m,.int .i64 sp])] = Tr.val (.cnd (decide (sk = 1)) (.cnd (decide
 (IntKind.i64.wrap ((↑cols.length:Int) + (↑bys.length:Int)) = 0)) (.cnd (decide (m = 0)) (.chk (okC B n (DV.agg [.int .i64 k,.str c,.int .i64 vk,.int .i64
 vn,.str vs,.slc 7 l,.int .i64 p]) && decide (B ≤ big)) (.cnd (decide (dep 16 (DV.agg [.int .i64 k,.str c,.int .i64 vk,.int .i64 vn,.str vs,.slc 7 l,.int
 .i64 p]) > 0)) (.chk (okC B n (DV.agg [.int .i64 k,.str c,.int .i64 vk,.int .i64 vn,.str vs,.slc 7 l,.int .i64 p]) && decide (B ≤ big)) (.ok (PV.d (.bool
 (soundD n (DV.agg [.int .i64 k,.str c,.int .i64 vk,.int .i64 vn,.str vs,.slc 7 l,.int .i64 p])))))) (.ok (PV.d (.bool false))))) (.ok (PV.d (.bool
 false)))) (.ok (PV.d (.bool false)))) (.cnd (!decide (k = 0)) (.ok (PV.d (.bool false))) (.cnd (!decide (c = ([]:List UInt8))) (.ok (PV.d (.bool false))) (.cnd
 (!(decide (vk = 0) && (decide (vn = 0) && (decide (vs = []) && true)))) (.ok (PV.d (.bool false))) (.cnd (decide ((↑l.length:Int) > 0)) (.ok (PV.d (.bool
 false))) (.cnd (!decide (sk = 4)) (.cnd (!decide (m = 0)) (.ok (PV.d (.bool false))) (.cnd (decide (sk < 5)) (.cnd (decide ((↑bys.length:Int) > 0)) (.ok (PV.d
 (.bool false))) (.chk (bys.all (okCol B) && decide (bys.length ≤ big) && decide (B ≤ big)) (.cnd (!colsB bys 0 1 false) (.ok (PV.d (.bool false))) (.cnd (decide
 (sk = 2)) (.chk (cols.all (okCol B) && decide (cols.length ≤ big) && decide (B ≤ big)) (.ok (PV.d (.bool (colsB cols 1 8 false))))) (.cnd (decide (sk = 3)) (.chk
 (cols.all (okCol B) && decide (cols.length ≤ big) && decide (B ≤ big)) (.ok (PV.d (.bool (colsB cols 1 8 true))))) (.cnd (decide (sk = 4)) (.cnd (decide
 ((↑cols.length:Int) = 0)) (.ok (PV.d (.bool (decide (m ≥ 0))))) (.ok (PV.d (.bool false)))) (.cnd (decide (sk = 5)) (.ok (PV.d (.bool (decide ((↑cols.length :
 Int) = 0))))) (.cnd (decide (sk = 6)) (.chk (cols.all (okCol B) && decide (cols.length ≤ big) && decide (B ≤ big)) (.ok (PV.d (.bool (colsB cols 1 1 false)))))
 (.cnd (decide (sk = 7)) (.chk (cols.all (okCol B) && decide (cols.length ≤ big) && decide (B ≤ big)) (.ok (PV.d (.bool (colsB cols 1 1 false))))) (.cnd (decide
 (sk = 8)) (.chk (cols.all (okCol B) && decide (cols.length ≤ big) && decide (B ≤ big)) (.ok (PV.d (.bool (colsB cols 1 1 false))))) (.ok (PV.d (.bool
 false))))))))))))) (.chk (bys.all (okCol B) && decide (bys.length ≤ big) && decide (B ≤ big)) (.cnd (!colsB bys 0 1 false) (.ok (PV.d (.bool false))) (.cnd
 (decide (sk = 2)) (.chk (cols.all (okCol B) && decide (cols.length ≤ big) && decide (B ≤ big)) (.ok (PV.d (.bool (colsB cols 1 8 false))))) (.cnd (decide (sk =
 3)) (.chk (cols.all (okCol B) && decide (cols.length ≤ big) && decide (B ≤ big)) (.ok (PV.d (.bool (colsB cols 1 8 true))))) (.cnd (decide (sk = 4)) (.cnd
 (decide ((↑cols.length:Int) = 0)) (.ok (PV.d (.bool (decide (m ≥ 0))))) (.ok (PV.d (.bool false)))) (.cnd (decide (sk = 5)) (.ok (PV.d (.bool (decide
 ((↑cols.length:Int) = 0))))) (.cnd (decide (sk = 6)) (.chk (cols.all (okCol B) && decide (cols.length ≤ big) && decide (B ≤ big)) (.ok (PV.d (.bool (colsB cols
 1 1 false))))) (.cnd (decide (sk = 7)) (.chk (cols.all (okCol B) && decide (cols.length ≤ big) && decide (B ≤ big)) (.ok (PV.d (.bool (colsB cols 1 1 false)))))
 (.cnd (decide (sk = 8)) (.chk (cols.all (okCol B) && decide (cols.length ≤ big) && decide (B ≤ big)) (.ok (PV.d (.bool (colsB cols 1 1 false))))) (.ok (PV.d
 (.bool false)))))))))))))) (.cnd (decide (sk < 5)) (.cnd (decide ((↑bys.length:Int) > 0)) (.ok (PV.d (.bool false))) (.chk (bys.all (okCol B) && decide
 (bys.length ≤ big) && decide (B ≤ big)) (.cnd (!colsB bys 0 1 false) (.ok (PV.d (.bool false))) (.cnd (decide (sk = 2)) (.chk (cols.all (okCol B) && decide
 (cols.length ≤ big) && decide (B ≤ big)) (.ok (PV.d (.bool (colsB cols 1 8 false))))) (.cnd (decide (sk = 3)) (.chk (cols.all (okCol B) && decide (cols.length ≤
 big) && decide (B ≤ big)) (.ok (PV.d (.bool (colsB cols 1 8 true))))) (.cnd (decide (sk = 4)) (.cnd (decide ((↑cols.length:Int) = 0)) (.ok (PV.d (.bool (decide
 (m ≥ 0))))) (.ok (PV.d (.bool false)))) (.cnd (decide (sk = 5)) (.ok (PV.d (.bool (decide ((↑cols.length:Int) = 0))))) (.cnd (decide (sk = 6)) (.chk (cols.all
 (okCol B) && decide (cols.length ≤ big) && decide (B ≤ big)) (.ok (PV.d (.bool (colsB cols 1 1 false))))) (.cnd (decide (sk = 7)) (.chk (cols.all (okCol B) &&
 decide (cols.length ≤ big) && decide (B ≤ big)) (.ok (PV.d (.bool (colsB cols 1 1 false))))) (.cnd (decide (sk = 8)) (.chk (cols.all (okCol B) && decide
 (cols.length ≤ big) && decide (B ≤ big)) (.ok (PV.d (.bool (colsB cols 1 1 false))))) (.ok (PV.d (.bool false))))))))))))) (.chk (bys.all (okCol B) && decide
 (bys.length ≤ big) && decide (B ≤ big)) (.cnd (!colsB bys 0 1 false) (.ok (PV.d (.bool false))) (.cnd (decide (sk = 2)) (.chk (cols.all (okCol B) && decide
 (cols.length ≤ big) && decide (B ≤ big)) (.ok (PV.d (.bool (colsB cols 1 8 false))))) (.cnd (decide (sk = 3)) (.chk (cols.all (okCol B) && decide (cols.length ≤
 big) && decide (B ≤ big)) (.ok (PV.d (.bool (colsB cols 1 8 true))))) (.cnd (decide (sk = 4)) (.cnd (decide ((↑cols.length:Int) = 0)) (.ok (PV.d (.bool (decide
 (m ≥ 0))))) (.ok (PV.d (.bool false)))) (.cnd (decide (sk = 5)) (.ok (PV.d (.bool (decide ((↑cols.length:Int) = 0))))) (.cnd (decide (sk = 6)) (.chk (cols.all
 (okCol B) && decide (cols.length ≤ big) && decide (B ≤ big)) (.ok (PV.d (.bool (colsB cols 1 1 false))))) (.cnd (decide (sk = 7)) (.chk (cols.all (okCol B) &&
 decide (cols.length ≤ big) && decide (B ≤ big)) (.ok (PV.d (.bool (colsB cols 1 1 false))))) (.cnd (decide (sk = 8)) (.chk (cols.all (okCol B) && decide
 (cols.length ≤ big) && decide (B ≤ big)) (.ok (PV.d (.bool (colsB cols 1 1 false))))) (.ok (PV.d (.bool false))))))))))))))))))):=by kernel_rfl
theorem fn80:FnOk Tryz.prog 80 6 [.tmp 2] (body Tryz.f80):=⟨Tryz.f80,Tryz.func80,bodySome _ (by kernel_rfl),by kernel_rfl,by kernel_rfl,by kernel_rfl,by kernel_rfl⟩
theorem run80 (F:Nat) (B n:Nat) (sk:Int) (k:Int) (c:Str) (vk vn:Int) (vs:Str) (l:List DV) (p:Int) (cols bys:List DV) (m sp:Int):runP (ctx
 F [(81,.pure (S81 B n))]) noL 6 [.tmp 2] (body Tryz.f80) [.d (.agg [.int .i64 sk,.int .i64 k,.str c,.int .i64 vk,.int .i64 vn,.str vs,.slc 7 l,.int .i64
 p,.slc 3 cols,.slc 3 bys,.int .i64 m,.int .i64 sp])] = Tr.val (.chk (okStep B n (DV.agg [.int .i64 sk,.int .i64 k,.str c,.int .i64 vk,.int .i64 vn,.str
 vs,.slc 7 l,.int .i64 p,.slc 3 cols,.slc 3 bys,.int .i64 m,.int .i64 sp]) && decide (B ≤ big)) (.ok (PV.d (.bool !stepB n (DV.agg [.int .i64 sk,.int .i64
 k,.str c,.int .i64 vk,.int .i64 vn,.str vs,.slc 7 l,.int .i64 p,.slc 3 cols,.slc 3 bys,.int .i64 m,.int .i64 sp]))))):=by kernel_rfl
theorem round146_0 (F:Nat) {R:Type} (B n:Nat) (l:List DV) (z i:Int) (K:Ex → St → Option R) (G:St → Option R):roundK (pcodeK (ctx F [(80,.pure
 (S80 B n))]) noL (lp Tryz.f146 0)) 0 (allBut 19 [0,1,7,8] ++ temps (lp Tryz.f146 0)) (allBut 19 [4]) ⟨slots 19 [(0,.d (.slc 12 l)),(1,.func 80 []),(7,.d
 (.int .i64 z)),(8,.d (.int .i64 i))],[]⟩ K G = Tr.run (.cnd (decide (i < z)) (.chk (decide (0 ≤ i)) (.chk (decide (i.toNat < l.length)) (.chk (fits [.int .i64
 0,.int .i64 0,.str [],.int .i64 0,.int .i64 0,.str [],.nils 7,.int .i64 0,.nils 3,.nils 3,.int .i64 0,.int .i64 0] (gt DV.nili l i.toNat).cells) (.chk
 (okStep B n (DV.agg [view l i.toNat 0 (.int .i64 0),view l i.toNat (0 + 1) (.int .i64 0),view l i.toNat (0 + 1 + 1) (.str []),view l i.toNat (0 + 1 + 1 + 1)
 (.int .i64 0),view l i.toNat (0 + 1 + 1 + 1 + 1) (.int .i64 0),view l i.toNat (0 + 1 + 1 + 1 + 1 + 1) (.str []),view l i.toNat (0 + 1 + 1 + 1 + 1 + 1 + 1)
 (.nils 7),view l i.toNat (0 + 1 + 1 + 1 + 1 + 1 + 1 + 1) (.int .i64 0),view l i.toNat (0 + 1 + 1 + 1 + 1 + 1 + 1 + 1 + 1) (.nils 3),view l i.toNat (0 + 1 + 1
 + 1 + 1 + 1 + 1 + 1 + 1 + 1) (.nils 3),view l i.toNat (0 + 1 + 1 + 1 + 1 + 1 + 1 + 1 + 1 + 1 + 1) (.int .i64 0),view l i.toNat (0 + 1 + 1 + 1 + 1 + 1 + 1 + 1 +
 1 + 1 + 1 + 1) (.int .i64 0)]) && decide (B ≤ big)) (.cnd (!stepB n (DV.agg [view l i.toNat 0 (.int .i64 0),view l i.toNat (0 + 1) (.int .i64 0),view l i.toNat
 (0 + 1 + 1) (.str []),view l i.toNat (0 + 1 + 1 + 1) (.int .i64 0),view l i.toNat (0 + 1 + 1 + 1 + 1) (.int .i64 0),view l i.toNat (0 + 1 + 1 + 1 + 1 + 1)
 (.str []),view l i.toNat (0 + 1 + 1 + 1 + 1 + 1 + 1) (.nils 7),view l i.toNat (0 + 1 + 1 + 1 + 1 + 1 + 1 + 1) (.int .i64 0),view l i.toNat (0 + 1 + 1 + 1 + 1
 + 1 + 1 + 1 + 1) (.nils 3),view l i.toNat (0 + 1 + 1 + 1 + 1 + 1 + 1 + 1 + 1 + 1) (.nils 3),view l i.toNat (0 + 1 + 1 + 1 + 1 + 1 + 1 + 1 + 1 + 1 + 1) (.int
 .i64 0),view l i.toNat (0 + 1 + 1 + 1 + 1 + 1 + 1 + 1 + 1 + 1 + 1 + 1) (.int .i64 0)])) (.ok (.inl (Ex.ret,⟨slots 19 [(4,.d (.int .i64 i))],[]⟩))) (.ok (.inr
 ⟨slots 19 [(0,.d (.slc 12 l)),(1,PV.func 80 []),(7,.d (.int .i64 z)),(8,.d (.int .i64 (IntKind.i64.wrap (i + 1))))],[]⟩))))))) (.ok (.inl (Ex.exit 0,
 ⟨slots 19 [],[]⟩)))) (rnd K G):=by kernel_rfl
theorem fn146:FnOk Tryz.prog 146 19 [.tmp 4] (body Tryz.f146):=⟨Tryz.f146,Tryz.func146,bodySome _ (by kernel_rfl),by kernel_rfl,by kernel_rfl,by kernel_rfl,by kernel_rfl⟩
theorem run146 (F:Nat) (B n:Nat) (l:List DV):runP (ctx F [(80,.pure (S80 B n))]) (L146 B n) 19 [.tmp 4] (body Tryz.f146) [.d (.slc 12 l),.func 80 []] =
 Tr.val (.chk (decide ((↑l.length:Int) = (↑l.length:Int)) && decide (l.length ≤ big) && decide (B ≤ big) && decide (l.all (okStep B n) = true) && decide (0 ≤
 0) && decide (0 ≤ (↑l.length:Int))) (.cnd (decide (0 ≤ idxP (fun x ↦ !stepB n x) (List.drop (Int.toNat 0) l) 0)) (.ok (PV.d (.int .i64 (idxP (fun x ↦ !stepB n
 x) (List.drop (Int.toNat 0) l) 0)))) (.ok (PV.d (.int .i64 (Int.negSucc 0)))))):=by kernel_rfl
theorem fn79:FnOk Tryz.prog 79 9 [.tmp 4] (body Tryz.f79):=⟨Tryz.f79,Tryz.func79,bodySome _ (by kernel_rfl),by kernel_rfl,by kernel_rfl,by kernel_rfl,by kernel_rfl⟩
theorem run79 (F:Nat) (B n:Nat) (l:List DV):runP (ctx F [(146,.pure (S146 B n))]) noL 9 [.tmp 4] (body Tryz.f79) [.d (.slc 12 l),.func 80 []] = Tr.val
 (.chk (l.all (okStep B n) && decide (l.length ≤ big) && decide (B ≤ big)) (.ok (PV.d (.bool (decide (idxP (fun x ↦ !stepB n x) l 0 ≥ 0)))))):=by kernel_rfl
theorem fn31:FnOk Tryz.prog 31 18 [.tmp 2] (body Tryz.f31):=⟨Tryz.f31,Tryz.func31,bodySome _ (by kernel_rfl),by kernel_rfl,by kernel_rfl,by kernel_rfl,by kernel_rfl⟩
theorem run31 (F:Nat) (B n:Nat) (k f t:Int) (path name b:Str) (c:Int) (a:Bool) (ti p1:Int) (b2:Str) (cm2:Int) (a2:Bool) (ti2 p2 p3:Int)
 (steps:List DV):runP (ctx F [(78,.pure S78),(79,.pure (S79 B n))]) noL 18 [.tmp 2] (body Tryz.f31) [.d (.agg [.int .i64 k,.int .i64 f,.int .i64 t,.str
 path,.str name,.str b,.int .i64 c,.bool a,.int .i64 ti,.int .i64 p1,.str b2,.int .i64 cm2,.bool a2,.int .i64 ti2,.int .i64 p2,.int .i64 p3,.slc 12
 steps])] = Tr.val (.cnd (decide ((↑steps.length:Int) > 16)) (.ok (PV.d (.int .i64 (2)))) (.chk (decide (List.length path ≤ big) && decide (List.length name ≤
 big) && decide (List.length b ≤ big) && decide (List.length b2 ≤ big)) (.cnd (!srcB k f t path name b c a ti b2 cm2 a2 ti2) (.ok (PV.d (.int .i64 (2)))) (.chk
 (steps.all (okStep B n) && decide (steps.length ≤ big) && decide (B ≤ big)) (.cnd (steps.any fun x ↦ !stepB n x) (.ok (PV.d (.int .i64 (2)))) (.ok (PV.d (.int
 .i64 (0))))))))):=by kernel_rfl
theorem fn126:FnOk Tryz.prog 126 99 [.tmp 2] (body Tryz.f126):=⟨Tryz.f126,Tryz.func126,bodySome _ (by kernel_rfl),by kernel_rfl,by kernel_rfl,by kernel_rfl,by kernel_rfl⟩
theorem run126 (F:Nat) (B n:Nat) (sk:Int) (k:Int) (c:Str) (vk vn:Int) (vs:Str) (l:List DV) (p:Int) (cols bys:List DV) (m sp:Int):runP
 (ctx F [(34,.pure (S33 B n)),(193,.pure (S193 B n)),(194,.pure S194),(195,.pure (S148 B))]) noL 99 [.tmp 2] (body Tryz.f126) [.d (.agg [.int .i64 sk,.int
 .i64 k,.str c,.int .i64 vk,.int .i64 vn,.str vs,.slc 7 l,.int .i64 p,.slc 3 cols,.slc 3 bys,.int .i64 m,.int .i64 sp])] = Tr.val (.cnd (decide (sk =
 1)) (.chk (okC B n (DV.agg [.int .i64 k,.str c,.int .i64 vk,.int .i64 vn,.str vs,.slc 7 l,.int .i64 p]) && decide (B ≤ big)) (.cnd (decide (dep 16 (DV.agg
 [.int .i64 k,.str c,.int .i64 vk,.int .i64 vn,.str vs,.slc 7 l,.int .i64 p]) > 0)) (.chk (okC B n (DV.agg [.int .i64 k,.str c,.int .i64 vk,.int .i64 vn,
 .str vs,.slc 7 l,.int .i64 p]) && decide (B ≤ big)) (.cnd (condD n (DV.agg [.int .i64 k,.str c,.int .i64 vk,.int .i64 vn,.str vs,.slc 7 l,.int .i64 p]))
 (.cnd (decide ((↑cols.length:Int) = 0)) (.cnd (decide ((↑bys.length:Int) = 0)) (.ok (PV.d (.bool (decide (m = 0))))) (.ok (PV.d (.bool false)))) (.ok (PV.d
 (.bool false)))) (.ok (PV.d (.bool false))))) (.ok (PV.d (.bool false))))) (.cnd (!bareB (DV.agg [.int .i64 k,.str c,.int .i64 vk,.int .i64 vn,.str vs,.slc
 7 l,.int .i64 p])) (.ok (PV.d (.bool false))) (.cnd (!decide (sk = 4)) (.cnd (!decide (m = 0)) (.ok (PV.d (.bool false))) (.cnd (decide (sk < 5)) (.cnd (decide
 ((↑bys.length:Int) > 0)) (.ok (PV.d (.bool false))) (.chk (bys.all (okCol B) && decide (bys.length ≤ big) && decide (B ≤ big)) (.cnd (!colsB bys 0 1 false)
 (.ok (PV.d (.bool false))) (.cnd (decide (sk = 2)) (.chk (cols.all (okCol B) && decide (cols.length ≤ big) && decide (B ≤ big)) (.ok (PV.d (.bool (colsB cols 1 8
 false))))) (.cnd (decide (sk = 3)) (.chk (cols.all (okCol B) && decide (cols.length ≤ big) && decide (B ≤ big)) (.ok (PV.d (.bool (colsB cols 1 8 true))))) (.cnd
 (decide (sk = 4)) (.cnd (decide (m ≥ 0)) (.ok (PV.d (.bool (decide ((↑cols.length:Int) = 0))))) (.ok (PV.d (.bool false)))) (.cnd (decide (sk = 5)) (.ok (PV.d
 (.bool (decide ((↑cols.length:Int) = 0))))) (.cnd (decide (sk = 6)) (.chk (cols.all (okCol B) && decide (cols.length ≤ big) && decide (B ≤ big)) (.ok (PV.d
 (.bool (colsB cols 1 1 false))))) (.cnd (decide (sk = 7)) (.chk (cols.all (okCol B) && decide (cols.length ≤ big) && decide (B ≤ big)) (.ok (PV.d (.bool (colsB
 cols 1 1 false))))) (.cnd (decide (sk = 8)) (.chk (cols.all (okCol B) && decide (cols.length ≤ big) && decide (B ≤ big)) (.ok (PV.d (.bool (colsB cols 1 1
 false))))) (.ok (PV.d (.bool false))))))))))))) (.chk (bys.all (okCol B) && decide (bys.length ≤ big) && decide (B ≤ big)) (.cnd (!colsB bys 0 1 false) (.ok
 (PV.d (.bool false))) (.cnd (decide (sk = 2)) (.chk (cols.all (okCol B) && decide (cols.length ≤ big) && decide (B ≤ big)) (.ok (PV.d (.bool (colsB cols 1 8
 false))))) (.cnd (decide (sk = 3)) (.chk (cols.all (okCol B) && decide (cols.length ≤ big) && decide (B ≤ big)) (.ok (PV.d (.bool (colsB cols 1 8 true))))) (.cnd
 (decide (sk = 4)) (.cnd (decide (m ≥ 0)) (.ok (PV.d (.bool (decide ((↑cols.length:Int) = 0))))) (.ok (PV.d (.bool false)))) (.cnd (decide (sk = 5)) (.ok (PV.d
 (.bool (decide ((↑cols.length:Int) = 0))))) (.cnd (decide (sk = 6)) (.chk (cols.all (okCol B) && decide (cols.length ≤ big) && decide (B ≤ big)) (.ok (PV.d
 (.bool (colsB cols 1 1 false))))) (.cnd (decide (sk = 7)) (.chk (cols.all (okCol B) && decide (cols.length ≤ big) && decide (B ≤ big)) (.ok (PV.d (.bool (colsB
 cols 1 1 false))))) (.cnd (decide (sk = 8)) (.chk (cols.all (okCol B) && decide (cols.length ≤ big) && decide (B ≤ big)) (.ok (PV.d (.bool (colsB cols 1 1
 false))))) (.ok (PV.d (.bool false)))))))))))))) (.cnd (decide (sk < 5)) (.cnd (decide ((↑bys.length:Int) > 0)) (.ok (PV.d (.bool false))) (.chk (bys.all
 (okCol B) && decide (bys.length ≤ big) && decide (B ≤ big)) (.cnd (!colsB bys 0 1 false) (.ok (PV.d (.bool false))) (.cnd (decide (sk = 2)) (.chk (cols.all
 (okCol B) && decide (cols.length ≤ big) && decide (B ≤ big)) (.ok (PV.d (.bool (colsB cols 1 8 false))))) (.cnd (decide (sk = 3)) (.chk (cols.all (okCol B) &&
 decide (cols.length ≤ big) && decide (B ≤ big)) (.ok (PV.d (.bool (colsB cols 1 8 true))))) (.cnd (decide (sk = 4)) (.cnd (decide (m ≥ 0)) (.ok (PV.d (.bool
 (decide ((↑cols.length:Int) = 0))))) (.ok (PV.d (.bool false)))) (.cnd (decide (sk = 5)) (.ok (PV.d (.bool (decide ((↑cols.length:Int) = 0))))) (.cnd (decide
 (sk = 6)) (.chk (cols.all (okCol B) && decide (cols.length ≤ big) && decide (B ≤ big)) (.ok (PV.d (.bool (colsB cols 1 1 false))))) (.cnd (decide (sk = 7)) (.chk
 (cols.all (okCol B) && decide (cols.length ≤ big) && decide (B ≤ big)) (.ok (PV.d (.bool (colsB cols 1 1 false))))) (.cnd (decide (sk = 8)) (.chk (cols.all
 (okCol B) && decide (cols.length ≤ big) && decide (B ≤ big)) (.ok (PV.d (.bool (colsB cols 1 1 false))))) (.ok (PV.d (.bool false))))))))))))) (.chk (bys.all
 (okCol B) && decide (bys.length ≤ big) && decide (B ≤ big)) (.cnd (!colsB bys 0 1 false) (.ok (PV.d (.bool false))) (.cnd (decide (sk = 2)) (.chk (cols.all
 (okCol B) && decide (cols.length ≤ big) && decide (B ≤ big)) (.ok (PV.d (.bool (colsB cols 1 8 false))))) (.cnd (decide (sk = 3)) (.chk (cols.all (okCol B) &&
 decide (cols.length ≤ big) && decide (B ≤ big)) (.ok (PV.d (.bool (colsB cols 1 8 true))))) (.cnd (decide (sk = 4)) (.cnd (decide (m ≥ 0)) (.ok (PV.d (.bool
 (decide ((↑cols.length:Int) = 0))))) (.ok (PV.d (.bool false)))) (.cnd (decide (sk = 5)) (.ok (PV.d (.bool (decide ((↑cols.length:Int) = 0))))) (.cnd (decide
 (sk = 6)) (.chk (cols.all (okCol B) && decide (cols.length ≤ big) && decide (B ≤ big)) (.ok (PV.d (.bool (colsB cols 1 1 false))))) (.cnd (decide (sk = 7)) (.chk
 (cols.all (okCol B) && decide (cols.length ≤ big) && decide (B ≤ big)) (.ok (PV.d (.bool (colsB cols 1 1 false))))) (.cnd (decide (sk = 8)) (.chk (cols.all
 (okCol B) && decide (cols.length ≤ big) && decide (B ≤ big)) (.ok (PV.d (.bool (colsB cols 1 1 false))))) (.ok (PV.d (.bool false)))))))))))))))):=by
 kernel_rfl
theorem round60_0 (F:Nat) {R:Type} (B n:Nat) (i:Int) (k f t:Int) (path name b:Str) (c:Int) (a:Bool) (ti p1:Int) (b2:Str) (cm2:Int) (a2 :
 Bool) (ti2 p2 p3:Int) (steps:List DV) (K:Ex → St → Option R) (G:St → Option R):roundK (pcodeK (ctx F [(126,.pure (S81 B n)),(127,.pure S78)]) noL
 (lp Tryz.f60 0)) 1 (allBut 27 [1,3] ++ temps (lp Tryz.f60 0)) (allBut 27 [1,2]) ⟨slots 27 [(1,.ptr 0 0),(3,.d (.int .i64 i))],[.cells [.d (.int .i64 k),.d
 (.int .i64 f),.d (.int .i64 t),.d (.str path),.d (.str name),.d (.str b),.d (.int .i64 c),.d (.bool a),.d (.int .i64 ti),.d (.int .i64 p1),.d (.str b2),
 .d (.int .i64 cm2),.d (.bool a2),.d (.int .i64 ti2),.d (.int .i64 p2),.d (.int .i64 p3),.d (.slc 12 steps)]]⟩ K G = Tr.run (.cnd (decide (i < (↑steps.length
 : Int))) (.chk (decide (0 ≤ i)) (.chk (decide (i.toNat < steps.length)) (.chk (fits [.int .i64 0,.int .i64 0,.str [],.int .i64 0,.int .i64 0,.str [],.nils
 7,.int .i64 0,.nils 3,.nils 3,.int .i64 0,.int .i64 0] (gt DV.nili steps i.toNat).cells) (.chk (okStep B n (DV.agg [view steps i.toNat 0 (.int .i64 0),view
 steps i.toNat (0 + 1) (.int .i64 0),view steps i.toNat (0 + 1 + 1) (.str []),view steps i.toNat (0 + 1 + 1 + 1) (.int .i64 0),view steps i.toNat (0 + 1 + 1 +
 1 + 1) (.int .i64 0),view steps i.toNat (0 + 1 + 1 + 1 + 1 + 1) (.str []),view steps i.toNat (0 + 1 + 1 + 1 + 1 + 1 + 1) (.nils 7),view steps i.toNat (0 + 1 +
 1 + 1 + 1 + 1 + 1 + 1) (.int .i64 0),view steps i.toNat (0 + 1 + 1 + 1 + 1 + 1 + 1 + 1 + 1) (.nils 3),view steps i.toNat (0 + 1 + 1 + 1 + 1 + 1 + 1 + 1 + 1 +
 1) (.nils 3),view steps i.toNat (0 + 1 + 1 + 1 + 1 + 1 + 1 + 1 + 1 + 1 + 1) (.int .i64 0),view steps i.toNat (0 + 1 + 1 + 1 + 1 + 1 + 1 + 1 + 1 + 1 + 1 + 1)
 (.int .i64 0)]) && decide (B ≤ big)) (.cnd (!stepB n (DV.agg [view steps i.toNat 0 (.int .i64 0),view steps i.toNat (0 + 1) (.int .i64 0),view steps i.toNat (0
 + 1 + 1) (.str []),view steps i.toNat (0 + 1 + 1 + 1) (.int .i64 0),view steps i.toNat (0 + 1 + 1 + 1 + 1) (.int .i64 0),view steps i.toNat (0 + 1 + 1 + 1 + 1
 + 1) (.str []),view steps i.toNat (0 + 1 + 1 + 1 + 1 + 1 + 1) (.nils 7),view steps i.toNat (0 + 1 + 1 + 1 + 1 + 1 + 1 + 1) (.int .i64 0),view steps i.toNat (0
 + 1 + 1 + 1 + 1 + 1 + 1 + 1 + 1) (.nils 3),view steps i.toNat (0 + 1 + 1 + 1 + 1 + 1 + 1 + 1 + 1 + 1) (.nils 3),view steps i.toNat (0 + 1 + 1 + 1 + 1 + 1 + 1 +
 1 + 1 + 1 + 1) (.int .i64 0),view steps i.toNat (0 + 1 + 1 + 1 + 1 + 1 + 1 + 1 + 1 + 1 + 1 + 1) (.int .i64 0)])) (.ok (.inl (Ex.ret,⟨slots 27 [(1,PV.ptr 0 0),
 (2,.d (.bool false))],[PObj.cells [.d (.int .i64 k),.d (.int .i64 f),.d (.int .i64 t),.d (.str path),.d (.str name),.d (.str b),.d (.int .i64 c),.d
 (.bool a),.d (.int .i64 ti),.d (.int .i64 p1),.d (.str b2),.d (.int .i64 cm2),.d (.bool a2),.d (.int .i64 ti2),.d (.int .i64 p2),.d (.int .i64 p3),.d
 (.slc 12 steps)]]⟩))) (.ok (.inr ⟨slots 27 [(1,PV.ptr 0 0),(3,.d (.int .i64 (IntKind.i64.wrap (i + 1))))],[PObj.cells [.d (.int .i64 k),.d (.int .i64 f),.d
 (.int .i64 t),.d (.str path),.d (.str name),.d (.str b),.d (.int .i64 c),.d (.bool a),.d (.int .i64 ti),.d (.int .i64 p1),.d (.str b2),.d (.int .i64
 cm2),.d (.bool a2),.d (.int .i64 ti2),.d (.int .i64 p2),.d (.int .i64 p3),.d (.slc 12 steps)]]⟩))))))) (.ok (.inl (Ex.exit 0,⟨slots 27 [(1,PV.ptr 0 0)],
 [PObj.cells [.d (.int .i64 k),.d (.int .i64 f),.d (.int .i64 t),.d (.str path),.d (.str name),.d (.str b),.d (.int .i64 c),.d (.bool a),.d (.int .i64
 ti),.d (.int .i64 p1),.d (.str b2),.d (.int .i64 cm2),.d (.bool a2),.d (.int .i64 ti2),.d (.int .i64 p2),.d (.int .i64 p3),.d (.slc 12 steps)]]⟩)))) (rnd
 K G):=by kernel_rfl
theorem fn60:FnOk Tryz.prog 60 27 [.tmp 2] (body Tryz.f60):=⟨Tryz.f60,Tryz.func60,bodySome _ (by kernel_rfl),by kernel_rfl,by kernel_rfl,by kernel_rfl,by kernel_rfl⟩
theorem run60 (F:Nat) (B n:Nat) (k f t:Int) (path name b:Str) (c:Int) (a:Bool) (ti p1:Int) (b2:Str) (cm2:Int) (a2:Bool) (ti2 p2 p3:Int)
 (steps:List DV):runP (ctx F [(126,.pure (S81 B n)),(127,.pure S78)]) (L60 B n) 27 [.tmp 2] (body Tryz.f60) [.d (.agg [.int .i64 k,.int .i64 f,.int .i64
 t,.str path,.str name,.str b,.int .i64 c,.bool a,.int .i64 ti,.int .i64 p1,.str b2,.int .i64 cm2,.bool a2,.int .i64 ti2,.int .i64 p2,.int .i64 p3,
 .slc 12 steps])] = Tr.val (.chk (decide (steps.length ≤ big) && decide (B ≤ big) && decide (steps.all (okStep B n) = true) && decide (0 ≤ 0) && decide (0 ≤
 (↑steps.length:Int))) (.cnd ((List.drop (Int.toNat 0) steps).all (stepB n)) (.chk (decide (List.length path ≤ big) && decide (List.length name ≤ big) && decide
 (List.length b ≤ big) && decide (List.length b2 ≤ big)) (.cnd (srcB k f t path name b c a ti b2 cm2 a2 ti2) (.ok (PV.d (.bool (decide ((↑steps.length:Int) ≤
 16))))) (.ok (PV.d (.bool false))))) (.ok (PV.d (.bool false))))):=by kernel_rfl
end Go.PS
end

section
namespace Go.PS
open Go.Proofs
set_option linter.all false
theorem ok81 (W0:World) (hW:Laid W0) (B n:Nat):EKOk Tryz.prog W0 81 (.pure (S81 B n)):=by
  refine pure_of (tyOk FU [(33,.pure (S33 B n)),(147,.pure (S147 B n)),(148,.pure (S148 B))]) (look_ok (all_cons (ok33 W0 B n) (all_cons (ok147 W0 hW B n) (all_cons (ok148 W0 hW B) all_nil)))) mixed fn81 (lpsOk_no _ _) fun args r h => ?_
  unfold S81 at h
  split at h
  · rename_i v
    simp only [Tr.val_chk,chk_some,Bool.and_eq_true,decide_eq_true_eq] at h
    obtain ⟨⟨hv,hB⟩,h⟩:=h
    obtain ⟨sk,k,c,vk,vn,vs,l,p,cols,bys,m,sp,rfl,h1,h2,h3,h4,h5,h6⟩:=okStep_inv hv
    refine (run81 FU B n sk k c vk vn vs l p cols bys m sp).trans (Eq.trans ?_ h)
    obtain ⟨f1,f2,_,f4⟩:=stepFacts h1 hB h5 h6
    simp only [Tr.val_ok,Tr.val_cnd,Tr.val_chk,cnd_i,chk_i,Bool.and_eq_true,decide_eq_true_eq,stepB_s,bareB_s,h1,h2,h3,hB,f1,f2,and_self,if_true,decide_true,Bool.and_true,Bool.true_and]
    clear h hv h1 h2 h3 h4
    have e1:((cols.length:Int) + bys.length = 0) ↔ (cols.length = 0 ∧ bys.length = 0):=by omega
    have w1:IntKind.i64.wrap ((cols.length:Int) + bys.length) = cols.length + bys.length:=by unfold big at f1 f2; exact wrap64 (by omega) (by omega)
    have e2:((l.length:Int) > 0) ↔ ¬ (l.length = 0):=by omega
    have e3:((bys.length:Int) > 0) ↔ (0 < bys.length):=by omega
    have e4:((cols.length:Int) = 0) ↔ (cols.length = 0):=by omega
    simp only [w1,e1,e2,e3,e4]
    by_cases k1:sk = 1
    · subst k1; simp only [if_true]; grind
    simp only [k1,if_false]
    by_cases hb:k = 0 ∧ c = [] ∧ vk = 0 ∧ vn = 0 ∧ vs = [] ∧ l.length = 0
    · obtain ⟨b1,b2,b3,b4,b5,b6⟩:=hb
      simp only [b1,b2,b3,b4,b5,b6]
      generalize colsB bys 0 1 false = x1
      generalize colsB cols 1 8 false = x2
      generalize colsB cols 1 8 true = x3
      generalize colsB cols 1 1 false = x4
      have hk:sk = 2 ∨ sk = 3 ∨ sk = 4 ∨ sk = 5 ∨ sk = 6 ∨ sk = 7 ∨ sk = 8 ∨ (sk < 2 ∨ 8 < sk):=by omega
      rcases hk with rfl | rfl | rfl | rfl | rfl | rfl | rfl | hk <;> grind
    · grind
  · simp [Tr.val_no] at h
theorem ok80 (W0:World) (hW:Laid W0) (B n:Nat):EKOk Tryz.prog W0 80 (.pure (S80 B n)):=by
  refine pure_of (tyOk FU [(81,.pure (S81 B n))]) (look_ok (all_cons (ok81 W0 hW B n) all_nil)) mixed fn80 (lpsOk_no _ _) fun args r h => ?_
  unfold S80 at h
  split at h
  · rename_i v
    simp only [Tr.val_chk,chk_some,Bool.and_eq_true,decide_eq_true_eq] at h
    obtain ⟨⟨hv,hB⟩,h⟩:=h
    obtain ⟨sk,k,c,vk,vn,vs,l,p,cols,bys,m,sp,rfl,h1,h2,h3,h4,h5,h6⟩:=okStep_inv hv
    refine (run80 FU B n sk k c vk vn vs l p cols bys m sp).trans (Eq.trans ?_ h)
    simp only [Tr.val_ok,Tr.val_cnd,Tr.val_chk,cnd_i,chk_i,Bool.and_eq_true,decide_eq_true_eq,hv,hB,and_self,if_true]
    
  · simp [Tr.val_no] at h
theorem loop146_0 (F:Nat) {R:Type} (B:Nat) (n:Nat) (l:List DV) (z:Int) (K:Ex → St → Option R) (g0:z = l.length) (g1:l.length ≤ big) (g2:B ≤ big) (g3:l.all (okStep B n) = true) :
    ∀ (m:Nat) (i:Int),0 ≤ i → i ≤ l.length → (l.length - i).toNat < m →
      loopK (pcodeK (ctx F [(80,.pure (S80 B n))]) noL (lp Tryz.f146 0)) 0 (allBut 19 [0,1,7,8] ++ temps (lp Tryz.f146 0)) (allBut 19 [4]) m
        ⟨slots 19 [(0,.d (.slc 12 l)),(1,.func 80 []),(7,.d (.int .i64 z)),(8,.d (.int .i64 i))],[]⟩ K =
      Tr.run (.cnd (decide (0 ≤ idxP (fun x => !stepB n x) (l.drop i.toNat) i)) (.ok (.ret,⟨slots 19 [(4,.d (.int .i64 (idxP (fun x => !stepB n x) (l.drop i.toNat) i)))],[]⟩)) (.ok (.exit 0,⟨slots 19 [],[]⟩))) (fun p => K p.1 p.2):=by
  intro m
  induction m with
  | zero => intro i; intros; omega
  | succ m ih =>
    intro i h0 h1 hm
    rw [loopK_succ,round146_0]
    unfold big at g1
    simp only [Tr.run,rnd,cnd_i,chk_i,Bool.and_eq_true,decide_eq_true_eq]
    by_cases hi:i < z
    · have w:IntKind.i64.wrap (i + 1) = i + 1:=wrap64 (by omega) (by omega)
      have hx:=all_gt (by assumption:l.all (okStep B n) = true) (i:=i) (by omega) (by omega)
      have ht:=okStep_fits hx
      rw [okStep_view hx]
      have ih1:=ih (i + 1) (by omega) (by omega) (by omega)
      simp only [Tr.run,cnd_i,decide_eq_true_eq] at ih1
      rw [idx_drop (by omega) (by omega)]
      clear ih
      rw [ht,hx]
      grind
    · have:l.drop i.toNat = []:=List.drop_of_length_le (by omega)
      rw [this]
      simp [hi,idxP]
theorem lps146 (F:Nat) (hF:F = FU) (B n:Nat):LpsOk (ctx F [(80,.pure (S80 B n))]) (L146 B n) (loopsOf (body Tryz.f146)):=by
  subst hF
  refine lps_one (c:=lp Tryz.f146 0) rfl (by kernel_rfl) fun R st K r h => ?_
  unfold T146_0 at h
  cases hs:shape 19 [0,1,7,8] st.slots with
  | false => rw [hs] at h; simp [Tr.run] at h
  | true =>
  rw [hs] at h
  simp only [cond_true] at h
  have he:=shape_eq hs
  obtain ⟨sl0,H⟩:=st
  dsimp only at h he ⊢
  split at h
  · rename_i l z i g0_ g1_ g2_ g3_
    simp only [List.map_cons,List.map_nil,g0_,g1_,g2_,g3_] at he
    subst he
    simp only [Tr.run] at h
    cases hc:(decide (z = l.length) && decide (l.length ≤ big) && decide (B ≤ big) && decide (l.all (okStep B n) = true) && decide (0 ≤ i) && decide (i ≤ l.length)) with
    | false => rw [hc] at h; simp at h
    | true =>
    rw [hc] at h
    simp only [Bool.and_eq_true,decide_eq_true_eq] at hc
    obtain ⟨⟨⟨⟨⟨c0,c1⟩,c2⟩,c3⟩,c4⟩,c5⟩:=hc
    refine (loop146_0 FU B n l z K c0 c1 c2 c3 FU i c4 c5 (by unfold FU; unfold big at *; omega)).trans ?_
    rw [← h]
    rfl
  · simp [Tr.run] at h
theorem ok146 (W0:World) (hW:Laid W0) (B n:Nat):EKOk Tryz.prog W0 146 (.pure (S146 B n)):=by
  refine pure_of (tyOk FU [(80,.pure (S80 B n))]) (look_ok (all_cons (ok80 W0 hW B n) all_nil)) mixed fn146 (lps146 FU rfl B n) fun args r h => ?_
  unfold S146 at h
  split at h
  · rename_i l
    refine (run146 FU B n l).trans (Eq.trans ?_ h)
    simp only [Tr.val_chk,chk_some,Bool.and_eq_true,decide_eq_true_eq] at h
    obtain ⟨⟨c0,c1⟩,c2⟩:=h.1
    clear h
    have e:=idxP_ge (fun x => !stepB n x) l 0 (by omega)
    simp only [Tr.val_ok,Tr.val_cnd,Tr.val_chk,cnd_i,chk_i,Bool.and_eq_true,decide_eq_true_eq,List.drop_zero,Int.toNat_zero]
    grind
  · simp [Tr.val_no] at h
theorem ok79 (W0:World) (hW:Laid W0) (B n:Nat):EKOk Tryz.prog W0 79 (.pure (S79 B n)):=by
  refine pure_of (tyOk FU [(146,.pure (S146 B n))]) (look_ok (all_cons (ok146 W0 hW B n) all_nil)) mixed fn79 (lpsOk_no _ _) fun args r h => ?_
  unfold S79 at h
  split at h
  · rename_i l
    refine (run79 FU B n l).trans (Eq.trans ?_ h)
    simp only [Tr.val_chk,chk_some,Bool.and_eq_true,decide_eq_true_eq] at h
    obtain ⟨⟨c0,c1⟩,c2⟩:=h.1
    clear h
    simp only [Tr.val_ok,Tr.val_chk,idxP_any _ l 0 (Int.le_refl 0)]
  · simp [Tr.val_no] at h
theorem ok31 (W0:World) (hW:Laid W0) (B n:Nat):EKOk Tryz.prog W0 31 (.pure (S31 B n)):=by
  refine pure_of (tyOk FU [(78,.pure S78),(79,.pure (S79 B n))]) (look_ok (all_cons (ok78 W0 hW) (all_cons (ok79 W0 hW B n) all_nil))) mixed fn31 (lpsOk_no _ _) fun args r h => ?_
  unfold S31 at h
  split at h
  · rename_i k f t path name b c a ti p1 b2 cm2 a2 ti2 p2 p3 steps
    refine (run31 FU B n k f t path name b c a ti p1 b2 cm2 a2 ti2 p2 p3 steps).trans (Eq.trans ?_ h)
    simp only [Tr.val_chk,chk_some,Bool.and_eq_true,decide_eq_true_eq] at h
    obtain ⟨⟨⟨c0,c1⟩,c2⟩,c3⟩:=h.1
    clear h
    have c4:=c3
    simp only [lensQ,lenB,Bool.and_eq_true,decide_eq_true_eq] at c3
    obtain ⟨⟨⟨d0,d1⟩,d2⟩,d3⟩:=c3
    simp only [Tr.val_ok,Tr.val_cnd,Tr.val_chk,cnd_i,chk_i,Bool.and_eq_true,decide_eq_true_eq,c0,c1,c2,c4,d0,d1,d2,d3,and_self,if_true,rightQ,← any_not]
    have e1:((steps.length:Int) > 16) ↔ ¬ (steps.length ≤ 16):=by omega
    simp only [e1]
    generalize srcB k f t path name b c a ti b2 cm2 a2 ti2 = x1
    generalize (steps.any fun x => !stepB n x) = x2
    by_cases q:steps.length ≤ 16 <;> simp only [q,decide_true,decide_false,not_true_eq_false,not_false_eq_true,if_true,if_false] <;> cases x1 <;> cases x2 <;> simp
  · simp [Tr.val_no] at h
theorem ok126 (W0:World) (B n:Nat):EKOk Tryz.prog W0 126 (.pure (S81 B n)):=by
  refine pure_of (tyOk FU [(34,.pure (S33 B n)),(193,.pure (S193 B n)),(194,.pure S194),(195,.pure (S148 B))]) (look_ok (all_cons (ok34 W0 B n) (all_cons (ok193 W0 B n) (all_cons (ok194 W0) (all_cons (ok195 W0 B) all_nil))))) mixed fn126 (lpsOk_no _ _) fun args r h => ?_
  unfold S81 at h
  split at h
  · rename_i v
    simp only [Tr.val_chk,chk_some,Bool.and_eq_true,decide_eq_true_eq] at h
    obtain ⟨⟨hv,hB⟩,h⟩:=h
    obtain ⟨sk,k,c,vk,vn,vs,l,p,cols,bys,m,sp,rfl,h1,h2,h3,h4,h5,h6⟩:=okStep_inv hv
    refine (run126 FU B n sk k c vk vn vs l p cols bys m sp).trans (Eq.trans ?_ h)
    obtain ⟨f1,f2,f3,f4⟩:=stepFacts h1 hB h5 h6
    simp only [Tr.val_ok,Tr.val_cnd,Tr.val_chk,cnd_i,chk_i,Bool.and_eq_true,decide_eq_true_eq,stepB_s,h1,h2,h3,hB,f1,f2,and_self,if_true,decide_true,Bool.and_true,Bool.true_and]
    clear h hv h1 h2 h3 h4
    have e3:((bys.length:Int) > 0) ↔ (0 < bys.length):=by omega
    have e4:((cols.length:Int) = 0) ↔ (cols.length = 0):=by omega
    have e5:((bys.length:Int) = 0) ↔ (bys.length = 0):=by omega
    simp only [e3,e4,e5]
    by_cases k1:sk = 1
    · subst k1; simp only [if_true]; grind
    simp only [k1,if_false]
    generalize bareB (.agg [.int .i64 k,.str c,.int .i64 vk,.int .i64 vn,.str vs,.slc 7 l,.int .i64 p]) = x0
    generalize colsB bys 0 1 false = x1
    generalize colsB cols 1 8 false = x2
    generalize colsB cols 1 8 true = x3
    generalize colsB cols 1 1 false = x4
    have hk:sk = 2 ∨ sk = 3 ∨ sk = 4 ∨ sk = 5 ∨ sk = 6 ∨ sk = 7 ∨ sk = 8 ∨ (sk < 2 ∨ 8 < sk):=by omega
    rcases hk with rfl | rfl | rfl | rfl | rfl | rfl | rfl | hk <;> first | grind | (obtain ⟨q2,q3,q4,q5,q6,q7,q8⟩:sk ≠ 2 ∧ sk ≠ 3 ∧ sk ≠ 4 ∧ sk ≠ 5 ∧ sk ≠ 6 ∧ sk ≠ 7 ∧ sk ≠ 8:=(by omega); simp only [q2,q3,q4,q5,q6,q7,q8,if_false,or_self,ne_eq,not_false_eq_true,true_and] <;> grind)
    
  · simp [Tr.val_no] at h
theorem loop60_0 (F:Nat) {R:Type} (B:Nat) (n:Nat) (k:Int) (f:Int) (t:Int) (path:Str) (name:Str) (b:Str) (c:Int) (a:Bool) (ti:Int) (p1:Int) (b2:Str) (cm2:Int) (a2:Bool) (ti2:Int) (p2:Int) (p3:Int) (steps:List DV) (K:Ex → St → Option R) (g0:steps.length ≤ big) (g1:B ≤ big) (g2:steps.all (okStep B n) = true) :
    ∀ (m:Nat) (i:Int),0 ≤ i → i ≤ steps.length → (steps.length - i).toNat < m →
      loopK (pcodeK (ctx F [(126,.pure (S81 B n)),(127,.pure S78)]) noL (lp Tryz.f60 0)) 1 (allBut 27 [1,3] ++ temps (lp Tryz.f60 0)) (allBut 27 [1,2]) m
        ⟨slots 27 [(1,.ptr 0 0),(3,.d (.int .i64 i))],[.cells [.d (.int .i64 k),.d (.int .i64 f),.d (.int .i64 t),.d (.str path),.d (.str name),.d (.str b),.d (.int .i64 c),.d (.bool a),.d (.int .i64 ti),.d (.int .i64 p1),.d (.str b2),.d (.int .i64 cm2),.d (.bool a2),.d (.int .i64 ti2),.d (.int .i64 p2),.d (.int .i64 p3),.d (.slc 12 steps)]]⟩ K =
      Tr.run (.cnd ((steps.drop i.toNat).all (stepB n)) (.ok (.exit 0,⟨slots 27 [(1,.ptr 0 0)],[.cells [.d (.int .i64 k),.d (.int .i64 f),.d (.int .i64 t),.d (.str path),.d (.str name),.d (.str b),.d (.int .i64 c),.d (.bool a),.d (.int .i64 ti),.d (.int .i64 p1),.d (.str b2),.d (.int .i64 cm2),.d (.bool a2),.d (.int .i64 ti2),.d (.int .i64 p2),.d (.int .i64 p3),.d (.slc 12 steps)]]⟩)) (.ok (.ret,⟨slots 27 [(1,.ptr 0 0),(2,.d (.bool false))],[.cells [.d (.int .i64 k),.d (.int .i64 f),.d (.int .i64 t),.d (.str path),.d (.str name),.d (.str b),.d (.int .i64 c),.d (.bool a),.d (.int .i64 ti),.d (.int .i64 p1),.d (.str b2),.d (.int .i64 cm2),.d (.bool a2),.d (.int .i64 ti2),.d (.int .i64 p2),.d (.int .i64 p3),.d (.slc 12 steps)]]⟩))) (fun p => K p.1 p.2):=by
  intro m
  induction m with
  | zero => intro i; intros; omega
  | succ m ih =>
    intro i h0 h1 hm
    rw [loopK_succ,round60_0]
    unfold big at g0
    simp only [Tr.run,rnd,cnd_i,chk_i,Bool.and_eq_true,decide_eq_true_eq]
    by_cases hi:i < steps.length
    · have w:IntKind.i64.wrap (i + 1) = i + 1:=wrap64 (by omega) (by omega)
      have hx:=all_gt g2 (i:=i) (by omega) (by omega)
      have ht:=okStep_fits hx
      rw [okStep_view hx]
      have ih1:=ih (i + 1)
      simp only [Tr.run,cnd_i] at ih1
      rw [all_drop (by omega) (by omega)]
      clear ih
      rw [ht,hx]
      generalize stepB n (gt .nili steps i.toNat) = q
      grind
    · have:steps.drop i.toNat = []:=List.drop_of_length_le (by omega)
      rw [this]
      simp [hi]
theorem lps60 (F:Nat) (hF:F = FU) (B n:Nat):LpsOk (ctx F [(126,.pure (S81 B n)),(127,.pure S78)]) (L60 B n) (loopsOf (body Tryz.f60)):=by
  subst hF
  refine lps_one (c:=lp Tryz.f60 0) rfl (by kernel_rfl) fun R st K r h => ?_
  unfold T60_0 at h
  cases hs:shape 27 [1,3] st.slots with
  | false => rw [hs] at h; simp [Tr.run] at h
  | true =>
  rw [hs] at h
  simp only [cond_true] at h
  have he:=shape_eq hs
  obtain ⟨sl0,H⟩:=st
  dsimp only at h he ⊢
  split at h
  · rename_i i k f t path name b c a ti p1 b2 cm2 a2 ti2 p2 p3 steps g0_ g1_
    simp only [List.map_cons,List.map_nil,g0_,g1_] at he
    subst he
    simp only [Tr.run] at h
    cases hc:(decide (steps.length ≤ big) && decide (B ≤ big) && decide (steps.all (okStep B n) = true) && decide (0 ≤ i) && decide (i ≤ steps.length)) with
    | false => rw [hc] at h; simp at h
    | true =>
    rw [hc] at h
    simp only [Bool.and_eq_true,decide_eq_true_eq] at hc
    obtain ⟨⟨⟨⟨c0,c1⟩,c2⟩,c3⟩,c4⟩:=hc
    refine (loop60_0 FU B n k f t path name b c a ti p1 b2 cm2 a2 ti2 p2 p3 steps K c0 c1 c2 FU i c3 c4 (by unfold FU; unfold big at *; omega)).trans ?_
    rw [← h]
    rfl
  · simp [Tr.run] at h
theorem ok60 (W0:World) (B n:Nat):EKOk Tryz.prog W0 60 (.pure (S60 B n)):=by
  refine pure_of (tyOk FU [(126,.pure (S81 B n)),(127,.pure S78)]) (look_ok (all_cons (ok126 W0 B n) (all_cons (ok127 W0) all_nil))) mixed fn60 (lps60 FU rfl B n) fun args r h => ?_
  unfold S60 at h
  split at h
  · rename_i k f t path name b c a ti p1 b2 cm2 a2 ti2 p2 p3 steps
    refine (run60 FU B n k f t path name b c a ti p1 b2 cm2 a2 ti2 p2 p3 steps).trans (Eq.trans ?_ h)
    simp only [Tr.val_chk,chk_some,Bool.and_eq_true,decide_eq_true_eq] at h
    obtain ⟨⟨⟨c0,c1⟩,c2⟩,c3⟩:=h.1
    clear h
    have c4:=c3
    simp only [lensQ,lenB,Bool.and_eq_true,decide_eq_true_eq] at c3
    obtain ⟨⟨⟨d0,d1⟩,d2⟩,d3⟩:=c3
    simp only [Tr.val_ok,Tr.val_cnd,Tr.val_chk,cnd_i,chk_i,Bool.and_eq_true,decide_eq_true_eq,c0,c1,c2,c4,d0,d1,d2,d3,and_self,if_true,rightQ,List.drop_zero,Int.toNat_zero,Bool.true_and]
    have e1:((steps.length:Int) ≤ 16) ↔ (steps.length ≤ 16):=by omega
    have e0:(0:Int) ≤ steps.length:=by omega
    simp only [e1,e0,Int.le_refl,if_true]
    generalize srcB k f t path name b c a ti b2 cm2 a2 ti2 = x1
    generalize steps.all (stepB n) = x2
    by_cases q:steps.length ≤ 16 <;> simp only [q,decide_true,decide_false] <;> cases x1 <;> cases x2 <;> simp
  · simp [Tr.val_no] at h
end Go.PS
end

section
namespace Go.PS
open Go.Proofs
structure PR (α:Type) where
  ok:Bool
  v:α
  rest:List DV
  pos:Int
  code:Int
structure Plc where
  br:Str
  cm:Int
  aso:Bool
  tm:Int
  p:Int
  deriving Inhabited
def Plc.cells (x:Plc):List DV:=[.str x.br,.int .i64 x.cm,.bool x.aso,.int .i64 x.tm,.int .i64 x.p]
structure Src where
  k:Int
  fr:Int
  to:Int
  path:Str
  name:Str
  pl:Plc
  ot:Plc
  p:Int
  deriving Inhabited
def Src.cells (x:Src):List DV:=[.int .i64 x.k,.int .i64 x.fr,.int .i64 x.to,.str x.path,.str x.name,.str x.pl.br,.int .i64 x.pl.cm,.bool x.pl.aso,.int .i64 x.pl.tm,.int .i64 x.pl.p,
  .str x.ot.br,.int .i64 x.ot.cm,.bool x.ot.aso,.int .i64 x.ot.tm,.int .i64 x.ot.p,.int .i64 x.p]
structure Stp where
  k:Int
  c:DV
  cols:List DV
  bys:List DV
  n:Int
  p:Int
  deriving Inhabited
end Go.PS
end

section
namespace Go.PS
open Go.Proofs
def S88:SD:=fun md args H => match md,args,H with
  | none,[.ptr 0 0,.ptr 1 0,.ptr 2 0],[.cells [.d a0,.d a1,.d a2,.d a3,.d a4,.d a5,.d a6,.d a7,.d a8,.d a9,.d a10,.d a11,.d a12,.d a13,.d a14,.d a15,.d a16],.cells [.d p],.cells [.d c]] => some (false,[.cells [.d a0,.d a1,.d a2,.d a3,.d a4,.d a5,.d a6,.d a7,.d a8,.d a9,.d a10,.d a11,.d a12,.d a13,.d a14,.d a15,.d a16],.cells [.d p],.cells [.d c]])
  | some (.iface 145 (.agg [.int .i64 a,.int .i64 b])),[.ptr 0 0,.ptr 1 0,.ptr 2 0],[.cells [.d (.int .i64 0),.d (.int .i64 0),.d (.int .i64 0),.d (.str []),.d (.str []),.d (.str []),.d (.int .i64 0),.d (.bool false),.d (.int .i64 0),.d (.int .i64 0),.d (.str []),.d (.int .i64 0),.d (.bool false),.d (.int .i64 0),.d (.int .i64 0),.d (.int .i64 0),.own 12 []],.cells [.d (.int .i64 _)],.cells [.d (.int .i64 _)]] => some (true,[.cells [.d (.int .i64 0),.d (.int .i64 0),.d (.int .i64 0),.d (.str []),.d (.str []),.d (.str []),.d (.int .i64 0),.d (.bool false),.d (.int .i64 0),.d (.int .i64 0),.d (.str []),.d (.int .i64 0),.d (.bool false),.d (.int .i64 0),.d (.int .i64 0),.d (.int .i64 0),.own 12 []],.cells [.d (.int .i64 a)],.cells [.d (.int .i64 b)]])
  | _,_,_ => none
end Go.PS
end

section
namespace Go.PS
open Go.Proofs
set_option maxRecDepth 100000
theorem rc88:RcOk Tryz.prog 88 15 5 3 (body Tryz.f88):=⟨⟨Tryz.f88,Tryz.func88,bodySome _ (by kernel_rfl),by kernel_rfl,by kernel_rfl,by kernel_rfl⟩,by kernel_rfl,by kernel_rfl,by kernel_rfl,by kernel_rfl,by kernel_rfl,by kernel_rfl,by kernel_rfl,of_decide_eq_true (by kernel_rfl)⟩
theorem run88 (F:Nat) (a0 a1 a2 a3 a4 a5 a6 a7 a8 a9 a10 a11 a12 a13 a14 a15 a16 p c:DV):runR (ctx F []) noL 15 5 3 (tlS (body Tryz.f88)) none [.ptr 0 0,
 .ptr 1 0,.ptr 2 0] [.cells [.d a0,.d a1,.d a2,.d a3,.d a4,.d a5,.d a6,.d a7,.d a8,.d a9,.d a10,.d a11,.d a12,.d a13,.d a14,.d a15,.d a16],
 .cells [.d p],.cells [.d c]] = Tr.val (.ok ((false,[PObj.cells [PV.d a0,PV.d a1,PV.d a2,PV.d a3,PV.d a4,PV.d a5,PV.d a6,PV.d a7,PV.d a8,PV.d a9,PV.d
 a10,PV.d a11,PV.d a12,PV.d a13,PV.d a14,PV.d a15,PV.d a16],PObj.cells [PV.d p],PObj.cells [PV.d c]]))):=by kernel_rfl
theorem run88_2 (F:Nat) (a b:Int) (p c:Int):runR (ctx F []) noL 15 5 3 (tlS (body Tryz.f88)) (some (.iface 145 (.agg [.int .i64 a,.int .i64 b]))) [.ptr
 0 0,.ptr 1 0,.ptr 2 0] [.cells [.d (.int .i64 0),.d (.int .i64 0),.d (.int .i64 0),.d (.str []),.d (.str []),.d (.str []),.d (.int .i64 0),.d (.bool
 false),.d (.int .i64 0),.d (.int .i64 0),.d (.str []),.d (.int .i64 0),.d (.bool false),.d (.int .i64 0),.d (.int .i64 0),.d (.int .i64 0),.own 12 []],
 .cells [.d (.int .i64 p)],.cells [.d (.int .i64 c)]] = Tr.val (.ok (((some (DV.iface 145 (DV.agg [.int .i64 a,.int .i64 b]))).isSome,[PObj.cells [.d (.int
 .i64 (0)),.d (.int .i64 (0)),.d (.int .i64 (0)),.d (.str []),.d (.str []),.d (.str []),.d (.int .i64 (0)),.d (.bool false),.d (.int .i64 (0)),.d (.int
 .i64 (0)),.d (.str []),.d (.int .i64 (0)),.d (.bool false),.d (.int .i64 (0)),.d (.int .i64 (0)),.d (.int .i64 (0)),PV.own 12 []],PObj.cells [.d (.int
 .i64 a)],PObj.cells [.d (.int .i64 b)]]))):=by kernel_rfl
theorem fn37:FnOk Tryz.prog 37 28 [.cell 2 30,.cell 3 3,.cell 4 33] (body Tryz.f37):=⟨Tryz.f37,Tryz.func37,bodySome _ (by kernel_rfl),by kernel_rfl,by kernel_rfl,by kernel_rfl,by kernel_rfl⟩
theorem df37:DfOk (body Tryz.f37) 3 18:=⟨by kernel_rfl,by kernel_rfl,by kernel_rfl,by kernel_rfl,by kernel_rfl⟩
end Go.PS
end

section
namespace Go.PS
open Go.Proofs
set_option linter.all false
def ML:Nat:=9223372036854775807
def okCn (B:Nat):DV → Bool
  | .agg [.str s,.int .i64 _] => lenB B s
  | _ => false
theorem okCn_inv {B:Nat} {v:DV} (h:okCn B v = true):∃ s k,v = .agg [.str s,.int .i64 k] ∧ s.length ≤ B:=by
  unfold okCn at h
  split at h
  · simp only [lenB,decide_eq_true_eq] at h
    exact ⟨_,_,rfl,h⟩
  · simp at h
theorem okCn_fits {B:Nat} {v:DV} (h:okCn B v = true):fits [.str [],.int .i64 0] v.cells = true:=by
  obtain ⟨s,k,rfl,_⟩:=okCn_inv h
  rfl
theorem okCn_view {B:Nat} {l:List DV} {i:Nat} (h:okCn B (gt .nili l i) = true) :
    DV.agg [view l i 0 (DV.str []),view l i (0 + 1) (DV.int .i64 0)] = gt .nili l i:=by
  obtain ⟨s,k,e,_⟩:=okCn_inv h
  unfold view
  simp only [atI,atS,atL,atB]
  rw [e]; rfl
def mkCn (s:Str) (k:Int):DV:=.agg [.str s,.int .i64 k]
def canCn (v:DV):DV:=mkCn (cS v 0) (cI v 1)
def fldL:List DV:=[mkCn [112,97,116,104] 2,mkCn [102,114,111,109] 1,mkCn [116,111] 1,mkCn [118,97,108,117,101] 3,mkCn [99,111,109,109,105,116] 1,mkCn [115,116,97,109,112] 1,mkCn [107,105,110,100] 2,mkCn [110,111,116,101] 2]
def fieldsI (k:Int):List Int:=if k = 1 ∨ k = 3 then [0,1,2,3] else if k = 2 then [0,3] else if k = 4 then [4,5,6] else if k = 5 then [0,6] else if k = 6 then [0,4,5] else if k = 7 then [4,5,7] else if k = 8 then [4,5] else []
def intsD (l:List Int):List DV:=l.map fun i => .int .i64 i
def fldsC (l:List DV):List DV:=l.map fun v => gt .nili fldL (cI v 0).toNat
def srcC (k:Int):List DV:=fldsC (intsD (fieldsI k))
def findC (l:List DV) (s:Str):Int:=idxP (fun x => decide (cS x 0 = s)) l 0
def cn1 (v:DV):Bool:=nameB (cS v 0) && (decide (1 ≤ cI v 1) && decide (cI v 1 ≤ 3))
def cnAll (l:List DV):List DV → Int → Bool
  | [],_ => true
  | v :: r,i => cn1 v && decide (findC l (cS v 0) = i) && cnAll l r (i + 1)
def rightC (l:List DV):Bool:=decide (1 ≤ l.length) && decide (l.length ≤ 16) && cnAll l l 0
def firstF (f:DV → Int × Int):List DV → Int × Int
  | [] => (0,0)
  | x :: r => if (f x).2 ≠ 0 then f x else firstF f r
def fitsK (k vk:Int):Bool:=if k = 1 then decide (vk = 1) else if k = 2 then decide (vk = 2) else true
def leafW (l:List DV) (v:DV):Int × Int :=
  if findC l (cS v 1) < 0 then (cI v 6,13) else
  if fitsK (atI l (findC l (cS v 1)).toNat 1) (cI v 2) = false ∨ (cI v 0 = 10 ∧ atI l (findC l (cS v 1)).toNat 1 = 1) then (cI v 6,12) else (0,0)
def whereW (l:List DV):Nat → DV → Int × Int
  | 0,_ => (0,0)
  | n + 1,v => if (firstF (whereW l n) (cL v 5)).2 ≠ 0 then firstF (whereW l n) (cL v 5) else if 0 < (cL v 5).length then (0,0) else leafW l v
def leafQ (l:List DV) (v:DV):Int × Int :=
  if findC l (cS v 1) < 0 then (cI v 6,13) else
  if (atI l (findC l (cS v 1)).toNat 1 ≠ 3 ∧ atI l (findC l (cS v 1)).toNat 1 ≠ cI v 2) ∨ (cI v 0 = 10 ∧ atI l (findC l (cS v 1)).toNat 1 = 1) then (cI v 6,12) else (0,0)
def whereQ (l:List DV):Nat → DV → Int × Int
  | 0,_ => (0,0)
  | n + 1,v => if cI v 0 ≤ 3 then firstF (whereQ l n) (cL v 5) else leafQ l v
def namedG (l:List DV) (once:Bool):List DV → List DV → List DV × Int × Int
  | [],out => (out,0,0)
  | c :: r,out => if findC l (cS c 0) < 0 then ([],cI c 2,13) else
    if once = true ∧ 0 ≤ findC out (cS c 0) then ([],cI c 2,7) else namedG l once r (out ++ [gt .nili l (findC l (cS c 0)).toNat])
def gatheredC (k f:Int):DV:=if k = 6 then mkCn [116,111,116,97,108] 1 else if k = 7 then mkCn [108,101,97,115,116] f else if k = 8 then mkCn [109,111,115,116] f else mkCn [110] 1
def ofK (x:List DV):Int:=if 0 < x.length then atI x 0 1 else 1
def gatherG (l cols bys:List DV) (k:Int):List DV × Int × Int :=
  if (namedG l false cols []).2.2 ≠ 0 then ([],(namedG l false cols []).2) else
  if (namedG l false bys []).2.2 ≠ 0 then ([],(namedG l false bys []).2) else
  if k = 6 ∧ ofK (namedG l false cols []).1 = 2 then ([],atI cols 0 2,12) else
  if 0 ≤ findC (namedG l false bys []).1 (cS (gatheredC k (ofK (namedG l false cols []).1)) 0) then ([],atI bys 0 2,7) else
  ((namedG l false bys []).1 ++ [gatheredC k (ofK (namedG l false cols []).1)],0,0)
def stepG (n:Nat) (l:List DV) (s:DV):List DV × Int × Int :=
  if cI s 0 = 1 then (l,whereW l n (condOf s)) else
  if cI s 0 = 2 then namedG l true (cL s 8) [] else
  if cI s 0 = 3 then (l,(namedG l false (cL s 8) []).2) else
  if cI s 0 = 4 then (l,0,0) else gatherG l (cL s 8) (cL s 9) (cI s 0)
def stepCc (n:Nat) (l:List DV) (s:DV):List DV × Int × Int:=if (stepG n l s).2.2 ≠ 0 then ([],(stepG n l s).2) else ((stepG n l s).1,0,0)
def foldG (n:Nat):List DV → List DV → List DV × Int × Int
  | [],l => (l,0,0)
  | s :: r,l => if (stepG n l s).2.2 ≠ 0 then ([],(stepG n l s).2) else foldG n r (stepG n l s).1
def S63:List PV → Tr PV
  | [.d (.int .i64 f)] => .chk (decide (0 ≤ f) && decide (f < 8)) (.ok (.d (canCn (gt .nili fldL f.toNat))))
  | _ => .no
def S62:List PV → Tr PV
  | [.d (.int .i64 k)] => .ok (.own 1 (intsD (fieldsI k)))
  | _ => .no
def okFld (l:List DV):Bool:=l.all fun v => match v with | .int .i64 i => decide (0 ≤ i) && decide (i < 8) | _ => false
theorem okCn_le {l:List DV} {A B:Nat} (h:l.all (okCn A) = true) (hAB:A ≤ B):l.all (okCn B) = true:=by
  rw [List.all_eq_true] at h ⊢
  intro x hx
  obtain ⟨s,k,rfl,h1⟩:=okCn_inv (h x hx)
  simp only [okCn,lenB,decide_eq_true_eq]; omega
def S66:List PV → List PObj → Tr (Out × List PObj)
  | [.d v,.ptr 0 0],[.cells [.d (.str s)]] => .chk (okCn ML v) (.ok (.ret (.d (.bool (decide (cS v 0 = s)))),[.cells [.d (.str s)]]))
  | _,_ => .no
def S65:List PV → List PObj → Tr (Out × List PObj)
  | [.d (.slc 2 l),.func 66 [.ptr 0 0]],[.cells [.d (.str s)]] => .chk (l.all (okCn ML) && decide (l.length ≤ big)) (.ok (.ret (.d (.int .i64 (findC l s))),[.cells [.d (.str s)]]))
  | _,_ => .no
def S22:List PV → Tr PV
  | [.d (.slc 2 l),.d (.str s)] => .chk (l.all (okCn ML) && decide (l.length ≤ big)) (.ok (.d (.int .i64 (findC l s))))
  | _ => .no
def S20:List PV → Tr PV
  | [.d (.slc 2 l)] => .chk (l.all (okCn big) && decide (l.length ≤ big)) (.ok (.d (.int .i64 (if rightC l = true then 0 else 2))))
  | _ => .no
def S59:List PV → Tr PV
  | [.d (.slc 2 l)] => .chk (decide (1 ≤ l.length) && decide (l.length ≤ big)) (.ok (.own 2 l))
  | _ => .no
def S191:List PV → Tr PV
  | [.d (.int .i64 k),.d (.agg [.int .i64 vk,.int .i64 _,.str _])] => .ok (.d (.bool (fitsK k vk)))
  | _ => .no
def S192:List PV → Tr PV
  | [.d (.int .i64 k),.d (.int .i64 f)] => .ok (.d (canCn (gatheredC k f)))
  | _ => .no
theorem cn_drop {l xs:List DV} {i:Int} (h0:0 ≤ i) (h:i < xs.length):cnAll l (xs.drop i.toNat) i = (cn1 (gt .nili xs i.toNat) && decide (findC l (atS xs i.toNat 0) = i) && cnAll l (xs.drop (i + 1).toNat) (i + 1)):=by
  rw [drop_gt h0 h]; rfl
theorem flds_drop {xs:List DV} {i:Int} (h0:0 ≤ i) (h:i < xs.length):fldsC (xs.drop i.toNat) = gt .nili fldL (atI xs i.toNat 0).toNat :: fldsC (xs.drop (i + 1).toNat):=by
  rw [drop_gt h0 h]; rfl
theorem okFld_get {xs:List DV} (h:okFld xs = true) {i:Int} (h0:0 ≤ i) (hi:i < xs.length):fits [.int .i64 0] (gt .nili xs i.toNat).cells = true ∧ 0 ≤ atI xs i.toNat 0 ∧ atI xs i.toNat 0 < 8:=by
  have:=all_gt h (i:=i) h0 hi
  rw [atI_c]
  generalize gt .nili xs i.toNat = v at *
  match v,this with
  | .int .i64 m,hm =>
    simp only [Bool.and_eq_true,decide_eq_true_eq] at hm
    exact ⟨rfl,hm.1,hm.2⟩
theorem canFld {f:Int} (h0:0 ≤ f) (h1:f < 8):canCn (gt .nili fldL f.toNat) = gt .nili fldL f.toNat:=by
  have hf:f = 0 ∨ f = 1 ∨ f = 2 ∨ f = 3 ∨ f = 4 ∨ f = 5 ∨ f = 6 ∨ f = 7:=by omega
  rcases hf with rfl | rfl | rfl | rfl | rfl | rfl | rfl | rfl <;> rfl
theorem fields_ok (k:Int):(intsD (fieldsI k)).length ≤ 8 ∧ okFld (intsD (fieldsI k)) = true:=by
  unfold fieldsI
  (repeat' split) <;> exact ⟨by decide,rfl⟩
theorem src_cn (k:Int):(srcC k).all (okCn big) = true ∧ (srcC k).length ≤ 8:=by
  unfold srcC fieldsI
  (repeat' split) <;> exact ⟨rfl,by decide⟩
def S18:List PV → Tr PV
  | [.d (.agg [.int .i64 k,.int .i64 _,.int .i64 _,.str _,.str _,.str _,.int .i64 _,.bool _,.int .i64 _,.int .i64 _,.str _,.int .i64 _,.bool _,.int .i64 _,.int .i64 _,.int .i64 _])] => .ok (.d (.slc 2 (srcC k)))
  | _ => .no
def T65_0 (st:St):Tr (Ex × St) :=
  bif shape 19 [0,1,7,8] st.slots then
    match gt .undef st.slots 0,gt .undef st.slots 1,gt .undef st.slots 7,gt .undef st.slots 8,st.heap with
    | .d (.slc 2 l),.func 66 [.ptr 0 0],.d (.int .i64 n),.d (.int .i64 i),[.cells [.d (.str s)]] =>
      .chk (decide (n = l.length) && decide (l.length ≤ big) && decide (l.all (okCn ML) = true) && decide (0 ≤ i) && decide (i ≤ l.length)) (.cnd (decide (0 ≤ idxP (fun x => decide (cS x 0 = s)) (l.drop i.toNat) i)) (.ok (.ret,⟨slots 19 [(4,.d (.int .i64 (idxP (fun x => decide (cS x 0 = s)) (l.drop i.toNat) i)))],[.cells [.d (.str s)]]⟩)) (.ok (.exit 0,⟨slots 19 [],[.cells [.d (.str s)]]⟩)))
    | _,_,_,_,_ => .no
  else .no
def L65:Lps:=fun i => bif Nat.beq i 2 then some (allBut 19 [0,1,7,8],allBut 19 [4],T65_0) else none
def T20_0 (st:St):Tr (Ex × St) :=
  bif shape 43 [0,13,14,15] st.slots then
    match gt .undef st.slots 0,gt .undef st.slots 13,gt .undef st.slots 14,gt .undef st.slots 15,st.heap with
    | .d (.slc 2 l),.d (.slc 2 l2),.d (.int .i64 n),.d (.int .i64 i),[] =>
      .chk (decide (n = l2.length) && decide (l2.length ≤ big) && decide (l2.all (okCn big) = true) && decide (l.length ≤ big) && decide (l.all (okCn ML) = true) && decide (0 ≤ i) && decide (i ≤ l2.length)) (.cnd (cnAll l (l2.drop i.toNat) i) (.ok (.exit 0,⟨slots 43 [],[]⟩)) (.ok (.ret,⟨slots 43 [(2,.d (.int .i64 2))],[]⟩)))
    | _,_,_,_,_ => .no
  else .no
def L20:Lps:=fun i => bif Nat.beq i 4 then some (allBut 43 [0,13,14,15],allBut 43 [2],T20_0) else none
def T18_0 (st:St):Tr (Ex × St) :=
  bif shape 21 [3,8,9,10] st.slots then
    match gt .undef st.slots 3,gt .undef st.slots 8,gt .undef st.slots 9,gt .undef st.slots 10,st.heap with
    | .own 2 out,.own 1 fl,.d (.int .i64 n),.d (.int .i64 i),[.cells [.d (.int .i64 k),.d (.int .i64 f),.d (.int .i64 t),.d (.str path),.d (.str name),.d (.str b),.d (.int .i64 c),.d (.bool a),.d (.int .i64 ti),.d (.int .i64 p1),.d (.str b2),.d (.int .i64 cm2),.d (.bool a2),.d (.int .i64 ti2),.d (.int .i64 p2),.d (.int .i64 p3)]] =>
      .chk (decide (n = fl.length) && decide (fl.length ≤ big) && decide (okFld fl = true) && decide ((out.length:Int) = i) && decide (0 ≤ i) && decide (i ≤ fl.length)) (.ok (.exit 0,⟨slots 21 [(3,.own 2 (out ++ fldsC (fl.drop i.toNat)))],[.cells [.d (.int .i64 k),.d (.int .i64 f),.d (.int .i64 t),.d (.str path),.d (.str name),.d (.str b),.d (.int .i64 c),.d (.bool a),.d (.int .i64 ti),.d (.int .i64 p1),.d (.str b2),.d (.int .i64 cm2),.d (.bool a2),.d (.int .i64 ti2),.d (.int .i64 p2),.d (.int .i64 p3)]]⟩))
    | _,_,_,_,_ => .no
  else .no
def L18:Lps:=fun i => bif Nat.beq i 3 then some (allBut 21 [3,8,9,10],allBut 21 [3],T18_0) else none
end Go.PS
end

section
namespace Go.PS
open Go.Proofs
set_option maxRecDepth 100000
theorem fn62:FnOk Tryz.prog 62 26 [.tmp 2] (body Tryz.f62):=⟨Tryz.f62,Tryz.func62,bodySome _ (by kernel_rfl),by kernel_rfl,by kernel_rfl,by kernel_rfl,by kernel_rfl⟩
theorem run62 (F:Nat) (k:Int):runP (ctx F []) noL 26 [.tmp 2] (body Tryz.f62) [.d (.int .i64 k)] = Tr.val (.cnd (decide (k = 1)) (.ok (PV.own 1 [.int .i64
 (0),.int .i64 (1),.int .i64 (2),.int .i64 (3)])) (.cnd (decide (k = 3)) (.ok (PV.own 1 [.int .i64 (0),.int .i64 (1),.int .i64 (2),.int .i64 (3)])) (.cnd
 (decide (k = 2)) (.ok (PV.own 1 [.int .i64 (0),.int .i64 (3)])) (.cnd (decide (k = 4)) (.ok (PV.own 1 [.int .i64 (4),.int .i64 (5),.int .i64 (6)])) (.cnd
 (decide (k = 5)) (.ok (PV.own 1 [.int .i64 (0),.int .i64 (6)])) (.cnd (decide (k = 6)) (.ok (PV.own 1 [.int .i64 (0),.int .i64 (4),.int .i64 (5)])) (.cnd
 (decide (k = 7)) (.ok (PV.own 1 [.int .i64 (4),.int .i64 (5),.int .i64 (7)])) (.cnd (decide (k = 8)) (.ok (PV.own 1 [.int .i64 (4),.int .i64 (5)])) (.ok
 (PV.own 1 [])))))))))):=by kernel_rfl
theorem fn66:FnOk Tryz.prog 66 8 [.tmp 3] (body Tryz.f66):=⟨Tryz.f66,Tryz.func66,bodySome _ (by kernel_rfl),by kernel_rfl,by kernel_rfl,by kernel_rfl,by kernel_rfl⟩
theorem run66 (F:Nat) (s:Str) (c:Str) (k:Int):runE (ctx F []) noL 8 [.tmp 3] (body Tryz.f66) [.d (.agg [.str c,.int .i64 k]),.ptr 0 0] [.cells [.d
 (.str s)]] = Tr.val (.ok ((Out.ret (PV.d (.bool (decide (c = s)))),[PObj.cells [.d (.str s)]]))):=by kernel_rfl
theorem round65_0 (F:Nat) {R:Type} (l:List DV) (n i:Int) (s:Str) (K:Ex → St → Option R) (G:St → Option R):roundK (pcodeK (ctx F [(66,.eff
 (frameT S66))]) noL (lp Tryz.f65 0)) 1 (allBut 19 [0,1,7,8] ++ temps (lp Tryz.f65 0)) (allBut 19 [4]) ⟨slots 19 [(0,.d (.slc 2 l)),(1,.func 66 [.ptr 0 0]),
 (7,.d (.int .i64 n)),(8,.d (.int .i64 i))],[.cells [.d (.str s)]]⟩ K G = Tr.run (.cnd (decide (i < n)) (.chk (decide (0 ≤ i)) (.chk (decide (i.toNat <
 l.length)) (.chk (fits [.str [],.int .i64 0] (gt DV.nili l i.toNat).cells) (.chk (okCn ML (DV.agg [view l i.toNat 0 (.str []),view l i.toNat (0 + 1) (.int .i64
 0)])) (.cnd (decide (cS (DV.agg [view l i.toNat 0 (.str []),view l i.toNat (0 + 1) (.int .i64 0)]) 0 = s)) (.ok (.inl (Ex.ret,⟨slots 19 [(4,.d (.int .i64
 i))],[PObj.cells [.d (.str s)]]⟩))) (.ok (.inr ⟨slots 19 [(0,.d (.slc 2 l)),(1,PV.func 66 [PV.ptr 0 0]),(7,.d (.int .i64 n)),(8,.d (.int .i64
 (IntKind.i64.wrap (i + 1))))],[PObj.cells [.d (.str s)]]⟩))))))) (.ok (.inl (Ex.exit 0,⟨slots 19 [],[PObj.cells [.d (.str s)]]⟩)))) (rnd K G):=by kernel_rfl
theorem fn65:FnOk Tryz.prog 65 19 [.tmp 4] (body Tryz.f65):=⟨Tryz.f65,Tryz.func65,bodySome _ (by kernel_rfl),by kernel_rfl,by kernel_rfl,by kernel_rfl,by kernel_rfl⟩
theorem run65 (F:Nat) (l:List DV) (s:Str):runE (ctx F [(66,.eff (frameT S66))]) L65 19 [.tmp 4] (body Tryz.f65) [.d (.slc 2 l),.func 66 [.ptr 0 0]]
 [.cells [.d (.str s)]] = Tr.val (.chk (decide ((↑l.length:Int) = (↑l.length:Int)) && decide (l.length ≤ big) && decide (l.all (okCn ML) = true) && decide (0
 ≤ 0) && decide (0 ≤ (↑l.length:Int))) (.cnd (decide (0 ≤ idxP (fun x ↦ decide (cS x 0 = s)) (List.drop (Int.toNat 0) l) 0)) (.ok ((Out.ret (PV.d (.int .i64
 (idxP (fun x ↦ decide (cS x 0 = s)) (List.drop (Int.toNat 0) l) 0))),[PObj.cells [.d (.str s)]]))) (.ok ((Out.ret (PV.d (.int .i64 (Int.negSucc 0))),
 [PObj.cells [.d (.str s)]]))))):=by kernel_rfl
theorem fn22:FnOk Tryz.prog 22 8 [.tmp 4] (body Tryz.f22):=⟨Tryz.f22,Tryz.func22,bodySome _ (by kernel_rfl),by kernel_rfl,by kernel_rfl,by kernel_rfl,by kernel_rfl⟩
theorem run22 (F:Nat) (l:List DV) (s:Str):runP (ctx F [(65,.eff (frameT S65))]) noL 8 [.tmp 4] (body Tryz.f22) [.d (.slc 2 l),.d (.str s)] = Tr.val
 (.chk (l.all (okCn ML) && decide (l.length ≤ big)) (.ok (PV.d (.int .i64 (findC l s))))):=by kernel_rfl
theorem round20_0 (F:Nat) {R:Type} (l l2:List DV) (n i:Int) (K:Ex → St → Option R) (G:St → Option R):roundK (pcodeK (ctx F [(35,.pure S35),(22,
 .pure S22)]) noL (lp Tryz.f20 0)) 0 (allBut 43 [0,13,14,15] ++ temps (lp Tryz.f20 0)) (allBut 43 [2]) ⟨slots 43 [(0,.d (.slc 2 l)),(13,.d (.slc 2 l2)),
 (14,.d (.int .i64 n)),(15,.d (.int .i64 i))],[]⟩ K G = Tr.run (.cnd (decide (i < n)) (.chk (decide (0 ≤ i)) (.chk (decide (i.toNat < l2.length)) (.chk (fits
 [.str [],.int .i64 0] (gt DV.nili l2 i.toNat).cells) (.chk (decide ((atS l2 i.toNat 0).length ≤ big)) (.cnd (!nameB (atS l2 i.toNat 0)) (.ok (.inl (Ex.ret,
 ⟨slots 43 [(2,.d (.int .i64 (2)))],[]⟩))) (.cnd (decide (atI l2 i.toNat (0 + 1) < 1)) (.ok (.inl (Ex.ret,⟨slots 43 [(2,.d (.int .i64 (2)))],[]⟩))) (.cnd
 (decide (atI l2 i.toNat (0 + 1) > 3)) (.ok (.inl (Ex.ret,⟨slots 43 [(2,.d (.int .i64 (2)))],[]⟩))) (.chk (l.all (okCn ML) && decide (l.length ≤ big)) (.cnd
 (!decide (findC l (atS l2 i.toNat 0) = i)) (.ok (.inl (Ex.ret,⟨slots 43 [(2,.d (.int .i64 (2)))],[]⟩))) (.ok (.inr ⟨slots 43 [(0,.d (.slc 2 l)),(13,.d
 (.slc 2 l2)),(14,.d (.int .i64 n)),(15,.d (.int .i64 (IntKind.i64.wrap (i + 1))))],[]⟩))))))))))) (.ok (.inl (Ex.exit 0,⟨slots 43 [],[]⟩)))) (rnd K G) :=
 by kernel_rfl
theorem fn20:FnOk Tryz.prog 20 43 [.tmp 2] (body Tryz.f20):=⟨Tryz.f20,Tryz.func20,bodySome _ (by kernel_rfl),by kernel_rfl,by kernel_rfl,by kernel_rfl,by kernel_rfl⟩
theorem run20 (F:Nat) (l:List DV):runP (ctx F [(35,.pure S35),(22,.pure S22)]) L20 43 [.tmp 2] (body Tryz.f20) [.d (.slc 2 l)] = Tr.val (.cnd (decide
 ((↑l.length:Int) < 1)) (.ok (PV.d (.int .i64 (2)))) (.cnd (decide ((↑l.length:Int) > 16)) (.ok (PV.d (.int .i64 (2)))) (.chk (decide ((↑l.length:Int) =
 (↑l.length:Int)) && decide (l.length ≤ big) && decide (l.all (okCn big) = true) && decide (l.length ≤ big) && decide (l.all (okCn ML) = true) && decide (0 ≤ 0)
 && decide (0 ≤ (↑l.length:Int))) (.cnd (cnAll l (List.drop (Int.toNat 0) l) 0) (.ok (PV.d (.int .i64 (0)))) (.ok (PV.d (.int .i64 (2)))))))):=by kernel_rfl
theorem fn59:FnOk Tryz.prog 59 8 [.tmp 2] (body Tryz.f59):=⟨Tryz.f59,Tryz.func59,bodySome _ (by kernel_rfl),by kernel_rfl,by kernel_rfl,by kernel_rfl,by kernel_rfl⟩
theorem run59 (F:Nat) (l:List DV):runP (ctx F []) noL 8 [.tmp 2] (body Tryz.f59) [.d (.slc 2 l)] = Tr.val (.chk (decide (0 < l.length)) (.chk (limit 24
 (([]:List DV).length + l.length)) (.ok (PV.own 2 ([] ++ l))))):=by kernel_rfl
theorem fn191:FnOk Tryz.prog 191 16 [.tmp 4] (body Tryz.f191):=⟨Tryz.f191,Tryz.func191,bodySome _ (by kernel_rfl),by kernel_rfl,by kernel_rfl,by kernel_rfl,by kernel_rfl⟩
theorem run191 (F:Nat) (k vk vn:Int) (vs:Str):runP (ctx F []) noL 16 [.tmp 4] (body Tryz.f191) [.d (.int .i64 k),.d (.agg [.int .i64 vk,.int .i64 vn,
 .str vs])] = Tr.val (.cnd (decide (k = 1)) (.ok (PV.d (.bool (decide (vk = 1))))) (.cnd (decide (k = 2)) (.ok (PV.d (.bool (decide (vk = 2))))) (.ok (PV.d (.bool
 true))))):=by kernel_rfl
theorem fn192:FnOk Tryz.prog 192 18 [.cell 4 104] (body Tryz.f192):=⟨Tryz.f192,Tryz.func192,bodySome _ (by kernel_rfl),by kernel_rfl,by kernel_rfl,by kernel_rfl,by kernel_rfl⟩
theorem run192 (F:Nat) (k f:Int):runP (ctx F []) noL 18 [.cell 4 104] (body Tryz.f192) [.d (.int .i64 k),.d (.int .i64 f)] = Tr.val (.cnd (decide (k = 6))
 (.ok (PV.d (DV.agg [.str ([116,111,116,97,108]:List UInt8),.int .i64 (1)]))) (.cnd (decide (k = 7)) (.ok (PV.d (DV.agg [.str ([108,101,97,115,116] :
 List UInt8),.int .i64 f]))) (.cnd (decide (k = 8)) (.ok (PV.d (DV.agg [.str ([109,111,115,116]:List UInt8),.int .i64 f]))) (.ok (PV.d (DV.agg [.str ([110]
 : List UInt8),.int .i64 (1)])))))):=by kernel_rfl
theorem round18_0 (F:Nat) {R:Type} (fl out:List DV) (n i:Int) (k f t:Int) (path name b:Str) (c:Int) (a:Bool) (ti p1:Int) (b2:Str) (cm2:Int)
 (a2:Bool) (ti2 p2 p3:Int) (K:Ex → St → Option R) (G:St → Option R):roundK (pcodeK (ctx F [(62,.pure S62),(63,.pure S63)]) noL (lp Tryz.f18 0)) 1
 (allBut 21 [3,8,9,10] ++ temps (lp Tryz.f18 0)) (allBut 21 [3]) ⟨slots 21 [(3,.own 2 out),(8,.own 1 fl),(9,.d (.int .i64 n)),(10,.d (.int .i64 i))],
 [.cells [.d (.int .i64 k),.d (.int .i64 f),.d (.int .i64 t),.d (.str path),.d (.str name),.d (.str b),.d (.int .i64 c),.d (.bool a),.d (.int .i64 ti),.d
 (.int .i64 p1),.d (.str b2),.d (.int .i64 cm2),.d (.bool a2),.d (.int .i64 ti2),.d (.int .i64 p2),.d (.int .i64 p3)]]⟩ K G = Tr.run (.cnd (decide (i < n))
 (.chk (decide (0 ≤ i)) (.chk (decide (i.toNat < fl.length)) (.chk (fits [.int .i64 0] (gt DV.nili fl i.toNat).cells) (.chk (decide (0 ≤ atI fl i.toNat 0) &&
 decide (atI fl i.toNat 0 < 8)) (.chk (limit 24 (out.length + ([canCn (gt DV.nili fldL (atI fl i.toNat 0).toNat)]).length)) (.ok (.inr ⟨slots 21 [(3,PV.own 2
 (out ++ [DV.agg [.str (cS (gt DV.nili fldL (atI fl i.toNat 0).toNat) 0),.int .i64 (cI (gt DV.nili fldL (atI fl i.toNat 0).toNat) 1)]])),(8,PV.own 1 fl),(9,
 .d (.int .i64 n)),(10,.d (.int .i64 (IntKind.i64.wrap (i + 1))))],[PObj.cells [.d (.int .i64 k),.d (.int .i64 f),.d (.int .i64 t),.d (.str path),.d (.str
 name),.d (.str b),.d (.int .i64 c),.d (.bool a),.d (.int .i64 ti),.d (.int .i64 p1),.d (.str b2),.d (.int .i64 cm2),.d (.bool a2),.d (.int .i64 ti2),.d
 (.int .i64 p2),.d (.int .i64 p3)]]⟩))))))) (.ok (.inl (Ex.exit 0,⟨slots 21 [(3,PV.own 2 out)],[PObj.cells [.d (.int .i64 k),.d (.int .i64 f),.d (.int .i64
 t),.d (.str path),.d (.str name),.d (.str b),.d (.int .i64 c),.d (.bool a),.d (.int .i64 ti),.d (.int .i64 p1),.d (.str b2),.d (.int .i64 cm2),.d
 (.bool a2),.d (.int .i64 ti2),.d (.int .i64 p2),.d (.int .i64 p3)]]⟩)))) (rnd K G):=by kernel_rfl
theorem fn18:FnOk Tryz.prog 18 21 [.tmp 2] (body Tryz.f18):=⟨Tryz.f18,Tryz.func18,bodySome _ (by kernel_rfl),by kernel_rfl,by kernel_rfl,by kernel_rfl,by kernel_rfl⟩
theorem run18 (F:Nat) (k f t:Int) (path name b:Str) (c:Int) (a:Bool) (ti p1:Int) (b2:Str) (cm2:Int) (a2:Bool) (ti2 p2 p3:Int):runP (ctx F
 [(62,.pure S62),(63,.pure S63)]) L18 21 [.tmp 2] (body Tryz.f18) [.d (.agg [.int .i64 k,.int .i64 f,.int .i64 t,.str path,.str name,.str b,.int .i64 c,
 .bool a,.int .i64 ti,.int .i64 p1,.str b2,.int .i64 cm2,.bool a2,.int .i64 ti2,.int .i64 p2,.int .i64 p3])] = Tr.val (.chk (decide ((↑(intsD (fieldsI
 k)).length:Int) = (↑(intsD (fieldsI k)).length:Int)) && decide ((intsD (fieldsI k)).length ≤ big) && decide (okFld (intsD (fieldsI k)) = true) && decide ((0
 : Int) = 0) && decide (0 ≤ 0) && decide (0 ≤ (↑(intsD (fieldsI k)).length:Int))) (.ok (PV.d (.slc 2 ([] ++ fldsC (List.drop (Int.toNat 0) (intsD (fieldsI
 k)))))))):=by kernel_rfl
end Go.PS
end

section
namespace Go.PS
open Go.Proofs
set_option linter.all false
theorem fn63:FnOk Tryz.prog 63 14 [.cell 2 104] (body Tryz.f63):=⟨Tryz.f63,Tryz.func63,bodySome _ (by kernel_rfl),by kernel_rfl,by kernel_rfl,by kernel_rfl,by kernel_rfl⟩
theorem run63_0 (F:Nat):runP (ctx F []) noL 14 [.cell 2 104] (body Tryz.f63) [.d (.int .i64 0)] = some (.d (canCn (gt .nili fldL 0))):=by kernel_rfl
theorem run63_1 (F:Nat):runP (ctx F []) noL 14 [.cell 2 104] (body Tryz.f63) [.d (.int .i64 1)] = some (.d (canCn (gt .nili fldL 1))):=by kernel_rfl
theorem run63_2 (F:Nat):runP (ctx F []) noL 14 [.cell 2 104] (body Tryz.f63) [.d (.int .i64 2)] = some (.d (canCn (gt .nili fldL 2))):=by kernel_rfl
theorem run63_3 (F:Nat):runP (ctx F []) noL 14 [.cell 2 104] (body Tryz.f63) [.d (.int .i64 3)] = some (.d (canCn (gt .nili fldL 3))):=by kernel_rfl
theorem run63_4 (F:Nat):runP (ctx F []) noL 14 [.cell 2 104] (body Tryz.f63) [.d (.int .i64 4)] = some (.d (canCn (gt .nili fldL 4))):=by kernel_rfl
theorem run63_5 (F:Nat):runP (ctx F []) noL 14 [.cell 2 104] (body Tryz.f63) [.d (.int .i64 5)] = some (.d (canCn (gt .nili fldL 5))):=by kernel_rfl
theorem run63_6 (F:Nat):runP (ctx F []) noL 14 [.cell 2 104] (body Tryz.f63) [.d (.int .i64 6)] = some (.d (canCn (gt .nili fldL 6))):=by kernel_rfl
theorem run63_7 (F:Nat):runP (ctx F []) noL 14 [.cell 2 104] (body Tryz.f63) [.d (.int .i64 7)] = some (.d (canCn (gt .nili fldL 7))):=by kernel_rfl
theorem run63 (F:Nat) (f:Int) (h0:0 ≤ f) (h1:f < 8):runP (ctx F []) noL 14 [.cell 2 104] (body Tryz.f63) [.d (.int .i64 f)] = some (.d (canCn (gt .nili fldL f.toNat))):=by
  have hf:f = 0 ∨ f = 1 ∨ f = 2 ∨ f = 3 ∨ f = 4 ∨ f = 5 ∨ f = 6 ∨ f = 7:=by omega
  rcases hf with rfl | rfl | rfl | rfl | rfl | rfl | rfl | rfl
  · exact run63_0 F
  · exact run63_1 F
  · exact run63_2 F
  · exact run63_3 F
  · exact run63_4 F
  · exact run63_5 F
  · exact run63_6 F
  · exact run63_7 F
theorem ok63 (W0:World):EKOk Tryz.prog W0 63 (.pure S63):=by
  refine pure_of (tyOk FU []) (look_ok all_nil) mixed fn63 (lpsOk_no _ _) fun args r h => ?_
  unfold S63 at h
  split at h
  · rename_i f
    simp only [Tr.val_chk,chk_some,Bool.and_eq_true,decide_eq_true_eq] at h
    exact (run63 FU f h.1.1 h.1.2).trans h.2
  · simp [Tr.val_no] at h
theorem ok62 (W0:World):EKOk Tryz.prog W0 62 (.pure S62):=by
  refine pure_of (tyOk FU []) (look_ok all_nil) mixed fn62 (lpsOk_no _ _) fun args r h => ?_
  unfold S62 at h
  split at h
  · rename_i k
    refine (run62 FU k).trans (Eq.trans ?_ h)
    simp only [Tr.val_ok,Tr.val_cnd,Tr.val_chk,cnd_i,chk_i,Bool.and_eq_true,decide_eq_true_eq,fieldsI,intsD]
    grind
  · simp [Tr.val_no] at h
theorem ok66 (W0:World):EKOk Tryz.prog W0 66 (.eff (frameT S66)):=by
  refine eff_of (tyOk FU []) (look_ok all_nil) mixed fn66 (lpsOk_no _ _) fun args H r h => ?_
  unfold S66 at h
  split at h
  · rename_i v s
    simp only [Tr.val_chk,chk_some] at h
    obtain ⟨hv,h⟩:=h
    obtain ⟨c,k,rfl,_⟩:=okCn_inv hv
    exact (run66 FU s c k).trans h
    
  · simp [Tr.val_no] at h
theorem loop65_0 (F:Nat) {R:Type} (l:List DV) (n:Int) (s:Str) (K:Ex → St → Option R) (g0:n = l.length) (g1:l.length ≤ big) (g2:l.all (okCn ML) = true) :
    ∀ (m:Nat) (i:Int),0 ≤ i → i ≤ l.length → (l.length - i).toNat < m →
      loopK (pcodeK (ctx F [(66,.eff (frameT S66))]) noL (lp Tryz.f65 0)) 1 (allBut 19 [0,1,7,8] ++ temps (lp Tryz.f65 0)) (allBut 19 [4]) m
        ⟨slots 19 [(0,.d (.slc 2 l)),(1,.func 66 [.ptr 0 0]),(7,.d (.int .i64 n)),(8,.d (.int .i64 i))],[.cells [.d (.str s)]]⟩ K =
      Tr.run (.cnd (decide (0 ≤ idxP (fun x => decide (cS x 0 = s)) (l.drop i.toNat) i)) (.ok (.ret,⟨slots 19 [(4,.d (.int .i64 (idxP (fun x => decide (cS x 0 = s)) (l.drop i.toNat) i)))],[.cells [.d (.str s)]]⟩)) (.ok (.exit 0,⟨slots 19 [],[.cells [.d (.str s)]]⟩))) (fun p => K p.1 p.2):=by
  intro m
  induction m with
  | zero => intro i; intros; omega
  | succ m ih =>
    intro i h0 h1 hm
    rw [loopK_succ,round65_0]
    unfold big at g1
    simp only [Tr.run,rnd,cnd_i,chk_i,Bool.and_eq_true,decide_eq_true_eq]
    by_cases hi:i < n
    · have w:IntKind.i64.wrap (i + 1) = i + 1:=wrap64 (by omega) (by omega)
      have hx:=all_gt (by assumption:l.all (okCn ML) = true) (i:=i) (by omega) (by omega)
      have ht:=okCn_fits hx
      rw [okCn_view hx]
      have ih1:=ih (i + 1) (by omega) (by omega) (by omega)
      simp only [Tr.run,cnd_i,decide_eq_true_eq] at ih1
      rw [idx_drop (by omega) (by omega)]
      clear ih
      rw [ht,hx]
      grind
    · have:l.drop i.toNat = []:=List.drop_of_length_le (by omega)
      rw [this]
      simp [hi,idxP]
theorem lps65 (F:Nat) (hF:F = FU):LpsOk (ctx F [(66,.eff (frameT S66))]) L65 (loopsOf (body Tryz.f65)):=by
  subst hF
  refine lps_one (c:=lp Tryz.f65 0) rfl (by kernel_rfl) fun R st K r h => ?_
  unfold T65_0 at h
  cases hs:shape 19 [0,1,7,8] st.slots with
  | false => rw [hs] at h; simp [Tr.run] at h
  | true =>
  rw [hs] at h
  simp only [cond_true] at h
  have he:=shape_eq hs
  obtain ⟨sl0,H⟩:=st
  dsimp only at h he ⊢
  split at h
  · rename_i l n i s g0_ g1_ g2_ g3_
    simp only [List.map_cons,List.map_nil,g0_,g1_,g2_,g3_] at he
    subst he
    simp only [Tr.run] at h
    cases hc:(decide (n = l.length) && decide (l.length ≤ big) && decide (l.all (okCn ML) = true) && decide (0 ≤ i) && decide (i ≤ l.length)) with
    | false => rw [hc] at h; simp at h
    | true =>
    rw [hc] at h
    simp only [Bool.and_eq_true,decide_eq_true_eq] at hc
    obtain ⟨⟨⟨⟨c0,c1⟩,c2⟩,c3⟩,c4⟩:=hc
    refine (loop65_0 FU l n s K c0 c1 c2 FU i c3 c4 (by unfold FU; unfold big at *; omega)).trans ?_
    rw [← h]
    rfl
  · simp [Tr.run] at h
theorem ok65 (W0:World):EKOk Tryz.prog W0 65 (.eff (frameT S65)):=by
  refine eff_of (tyOk FU [(66,.eff (frameT S66))]) (look_ok (all_cons (ok66 W0) all_nil)) mixed fn65 (lps65 FU rfl) fun args H r h => ?_
  unfold S65 at h
  split at h
  · rename_i l s
    refine (run65 FU l s).trans (Eq.trans ?_ h)
    simp only [Tr.val_chk,chk_some,Bool.and_eq_true,decide_eq_true_eq] at h
    obtain ⟨c0,c1⟩:=h.1
    clear h
    have e:=idxP_ge (fun x => decide (cS x 0 = s)) l 0 (by omega)
    simp only [Tr.val_ok,Tr.val_cnd,Tr.val_chk,cnd_i,chk_i,Bool.and_eq_true,decide_eq_true_eq,List.drop_zero,Int.toNat_zero,findC]
    grind
  · simp [Tr.val_no] at h
theorem ok22 (W0:World):EKOk Tryz.prog W0 22 (.pure S22):=by
  refine pure_of (tyOk FU [(65,.eff (frameT S65))]) (look_ok (all_cons (ok65 W0) all_nil)) mixed fn22 (lpsOk_no _ _) fun args r h => ?_
  unfold S22 at h
  split at h
  · rename_i l s
    refine (run22 FU l s).trans (Eq.trans ?_ h)
    simp only [Tr.val_chk,chk_some,Bool.and_eq_true,decide_eq_true_eq] at h
    obtain ⟨c0,c1⟩:=h.1
    clear h
    simp only [Tr.val_ok,Tr.val_chk,chk_i,c0,c1,decide_true,Bool.and_self,if_true]
  · simp [Tr.val_no] at h
theorem loop20_0 (F:Nat) {R:Type} (l:List DV) (l2:List DV) (n:Int) (K:Ex → St → Option R) (g0:n = l2.length) (g1:l2.length ≤ big) (g2:l2.all (okCn big) = true) (g3:l.length ≤ big) (g4:l.all (okCn ML) = true) :
    ∀ (m:Nat) (i:Int),0 ≤ i → i ≤ l2.length → (l2.length - i).toNat < m →
      loopK (pcodeK (ctx F [(35,.pure S35),(22,.pure S22)]) noL (lp Tryz.f20 0)) 0 (allBut 43 [0,13,14,15] ++ temps (lp Tryz.f20 0)) (allBut 43 [2]) m
        ⟨slots 43 [(0,.d (.slc 2 l)),(13,.d (.slc 2 l2)),(14,.d (.int .i64 n)),(15,.d (.int .i64 i))],[]⟩ K =
      Tr.run (.cnd (cnAll l (l2.drop i.toNat) i) (.ok (.exit 0,⟨slots 43 [],[]⟩)) (.ok (.ret,⟨slots 43 [(2,.d (.int .i64 2))],[]⟩))) (fun p => K p.1 p.2):=by
  intro m
  induction m with
  | zero => intro i; intros; omega
  | succ m ih =>
    intro i h0 h1 hm
    rw [loopK_succ,round20_0]
    unfold big at g1
    simp only [Tr.run,rnd,cnd_i,chk_i,Bool.and_eq_true,decide_eq_true_eq]
    by_cases hi:i < n
    · have w:IntKind.i64.wrap (i + 1) = i + 1:=wrap64 (by omega) (by omega)
      have hx:=all_gt g2 (i:=i) (by omega) (by omega)
      have ht:=okCn_fits hx
      have hb:(atS l2 i.toNat 0).length ≤ big:=by
        obtain ⟨s,k,e,h1⟩:=okCn_inv hx
        rw [atS_c,e]; exact h1
      have e:cn1 (gt .nili l2 i.toNat) = (nameB (atS l2 i.toNat 0) && (decide (1 ≤ atI l2 i.toNat 1) && decide (atI l2 i.toNat 1 ≤ 3))):=rfl
      have ih1:=ih (i + 1)
      simp only [Tr.run,cnd_i] at ih1
      rw [cn_drop (by omega) (by omega),e]
      clear ih
      rw [ht]
      grind
    · have:l2.drop i.toNat = []:=List.drop_of_length_le (by omega)
      rw [this]
      simp [hi,cnAll]
theorem lps20 (F:Nat) (hF:F = FU):LpsOk (ctx F [(35,.pure S35),(22,.pure S22)]) L20 (loopsOf (body Tryz.f20)):=by
  subst hF
  refine lps_one (c:=lp Tryz.f20 0) rfl (by kernel_rfl) fun R st K r h => ?_
  unfold T20_0 at h
  cases hs:shape 43 [0,13,14,15] st.slots with
  | false => rw [hs] at h; simp [Tr.run] at h
  | true =>
  rw [hs] at h
  simp only [cond_true] at h
  have he:=shape_eq hs
  obtain ⟨sl0,H⟩:=st
  dsimp only at h he ⊢
  split at h
  · rename_i l l2 n i g0_ g1_ g2_ g3_
    simp only [List.map_cons,List.map_nil,g0_,g1_,g2_,g3_] at he
    subst he
    simp only [Tr.run] at h
    cases hc:(decide (n = l2.length) && decide (l2.length ≤ big) && decide (l2.all (okCn big) = true) && decide (l.length ≤ big) && decide (l.all (okCn ML) = true) && decide (0 ≤ i) && decide (i ≤ l2.length)) with
    | false => rw [hc] at h; simp at h
    | true =>
    rw [hc] at h
    simp only [Bool.and_eq_true,decide_eq_true_eq] at hc
    obtain ⟨⟨⟨⟨⟨⟨c0,c1⟩,c2⟩,c3⟩,c4⟩,c5⟩,c6⟩:=hc
    refine (loop20_0 FU l l2 n K c0 c1 c2 c3 c4 FU i c5 c6 (by unfold FU; unfold big at *; omega)).trans ?_
    rw [← h]
    rfl
  · simp [Tr.run] at h
theorem ok20 (W0:World) (hW:Laid W0):EKOk Tryz.prog W0 20 (.pure S20):=by
  refine pure_of (tyOk FU [(35,.pure S35),(22,.pure S22)]) (look_ok (all_cons (ok35 W0 hW) (all_cons (ok22 W0) all_nil))) mixed fn20 (lps20 FU rfl) fun args r h => ?_
  unfold S20 at h
  split at h
  · rename_i l
    refine (run20 FU l).trans (Eq.trans ?_ h)
    simp only [Tr.val_chk,chk_some,Bool.and_eq_true,decide_eq_true_eq] at h
    obtain ⟨c0,c1⟩:=h.1
    clear h
    have c2:l.all (okCn ML) = true:=okCn_le c0 (by unfold big ML; omega)
    simp only [Tr.val_ok,Tr.val_cnd,Tr.val_chk,cnd_i,chk_i,Bool.and_eq_true,decide_eq_true_eq,List.drop_zero,Int.toNat_zero,rightC]
    grind
  · simp [Tr.val_no] at h
theorem ok59 (W0:World):EKOk Tryz.prog W0 59 (.pure S59):=by
  refine pure_of (tyOk FU []) (look_ok all_nil) mixed fn59 (lpsOk_no _ _) fun args r h => ?_
  unfold S59 at h
  split at h
  · rename_i l
    refine (run59 FU l).trans (Eq.trans ?_ h)
    simp only [Tr.val_chk,chk_some,Bool.and_eq_true,decide_eq_true_eq] at h
    obtain ⟨c0,c1⟩:=h.1
    clear h
    have e:limit 24 (([]:List DV).length + l.length) = true:=by
      unfold limit; unfold big at c1; simp only [List.length_nil,decide_eq_true_eq]; omega
    simp only [Tr.val_ok,Tr.val_chk,chk_i,List.nil_append,e,if_true]
    rw [if_pos (show decide (0 < l.length) = true by simp only [decide_eq_true_eq]; omega)]
    simp only [c0,c1,decide_true,Bool.and_self,if_true]
  · simp [Tr.val_no] at h
theorem ok191 (W0:World):EKOk Tryz.prog W0 191 (.pure S191):=by
  refine pure_of (tyOk FU []) (look_ok all_nil) mixed fn191 (lpsOk_no _ _) fun args r h => ?_
  unfold S191 at h
  split at h
  · rename_i k vk vn vs
    refine (run191 FU k vk vn vs).trans (Eq.trans ?_ h)
    simp only [Tr.val_ok,Tr.val_cnd,Tr.val_chk,cnd_i,chk_i,Bool.and_eq_true,decide_eq_true_eq,fitsK]
    grind
  · simp [Tr.val_no] at h
theorem ok192 (W0:World):EKOk Tryz.prog W0 192 (.pure S192):=by
  refine pure_of (tyOk FU []) (look_ok all_nil) mixed fn192 (lpsOk_no _ _) fun args r h => ?_
  unfold S192 at h
  split at h
  · rename_i k f
    refine (run192 FU k f).trans (Eq.trans ?_ h)
    simp only [Tr.val_ok,Tr.val_cnd,cnd_i,decide_eq_true_eq,gatheredC]
    by_cases k1:k = 6
    · simp only [k1,if_true]; rfl
    by_cases k2:k = 7
    · simp only [k2,if_true]; rfl
    by_cases k3:k = 8
    · simp only [k3,if_true]; rfl
    simp only [k1,k2,k3,if_false]; rfl
  · simp [Tr.val_no] at h
theorem loop18_0 (F:Nat) {R:Type} (fl:List DV) (n:Int) (k:Int) (f:Int) (t:Int) (path:Str) (name:Str) (b:Str) (c:Int) (a:Bool) (ti:Int) (p1:Int) (b2:Str) (cm2:Int) (a2:Bool) (ti2:Int) (p2:Int) (p3:Int) (K:Ex → St → Option R) (g0:n = fl.length) (g1:fl.length ≤ big) (g2:okFld fl = true) :
    ∀ (m:Nat) (out:List DV) (i:Int),(out.length:Int) = i → 0 ≤ i → i ≤ fl.length → (fl.length - i).toNat < m →
      loopK (pcodeK (ctx F [(62,.pure S62),(63,.pure S63)]) noL (lp Tryz.f18 0)) 1 (allBut 21 [3,8,9,10] ++ temps (lp Tryz.f18 0)) (allBut 21 [3]) m
        ⟨slots 21 [(3,.own 2 out),(8,.own 1 fl),(9,.d (.int .i64 n)),(10,.d (.int .i64 i))],[.cells [.d (.int .i64 k),.d (.int .i64 f),.d (.int .i64 t),.d (.str path),.d (.str name),.d (.str b),.d (.int .i64 c),.d (.bool a),.d (.int .i64 ti),.d (.int .i64 p1),.d (.str b2),.d (.int .i64 cm2),.d (.bool a2),.d (.int .i64 ti2),.d (.int .i64 p2),.d (.int .i64 p3)]]⟩ K =
      Tr.run (.ok (.exit 0,⟨slots 21 [(3,.own 2 (out ++ fldsC (fl.drop i.toNat)))],[.cells [.d (.int .i64 k),.d (.int .i64 f),.d (.int .i64 t),.d (.str path),.d (.str name),.d (.str b),.d (.int .i64 c),.d (.bool a),.d (.int .i64 ti),.d (.int .i64 p1),.d (.str b2),.d (.int .i64 cm2),.d (.bool a2),.d (.int .i64 ti2),.d (.int .i64 p2),.d (.int .i64 p3)]]⟩)) (fun p => K p.1 p.2):=by
  intro m
  induction m with
  | zero => intro out i; intros; omega
  | succ m ih =>
    intro out i h0 h1 h2 hm
    rw [loopK_succ,round18_0]
    unfold big at g1
    simp only [Tr.run,rnd,cnd_i,chk_i,Bool.and_eq_true,decide_eq_true_eq]
    by_cases hi:i < n
    · have w:IntKind.i64.wrap (i + 1) = i + 1:=wrap64 (by omega) (by omega)
      obtain ⟨t1,t2,t3⟩:=okFld_get g2 (i:=i) (by omega) (by omega)
      have ih1:=ih (out ++ [gt .nili fldL (atI fl i.toNat 0).toNat]) (i + 1) (by simp; omega) (by omega) (by omega) (by omega)
      simp only [Tr.run] at ih1
      have hl:limit 24 (out.length + ([canCn (gt DV.nili fldL (atI fl i.toNat 0).toNat)]).length) = true:=by
        unfold limit; simp only [List.length_singleton,decide_eq_true_eq]; omega
      have e1:=canFld t2 t3
      unfold canCn mkCn at e1
      rw [flds_drop (by omega) (by omega),hl,e1,w]
      rw [List.append_assoc,List.singleton_append] at ih1
      simp only [hi,t1,t2,t3,h1,and_self,if_true]
      rw [if_pos (show i.toNat < fl.length by omega)]
      exact ih1
    · have:fl.drop i.toNat = []:=List.drop_of_length_le (by omega)
      rw [this]
      simp [hi,fldsC]
theorem lps18 (F:Nat) (hF:F = FU):LpsOk (ctx F [(62,.pure S62),(63,.pure S63)]) L18 (loopsOf (body Tryz.f18)):=by
  subst hF
  refine lps_one (c:=lp Tryz.f18 0) rfl (by kernel_rfl) fun R st K r h => ?_
  unfold T18_0 at h
  cases hs:shape 21 [3,8,9,10] st.slots with
  | false => rw [hs] at h; simp [Tr.run] at h
  | true =>
  rw [hs] at h
  simp only [cond_true] at h
  have he:=shape_eq hs
  obtain ⟨sl0,H⟩:=st
  dsimp only at h he ⊢
  split at h
  · rename_i out fl n i k f t path name b c a ti p1 b2 cm2 a2 ti2 p2 p3 g0_ g1_ g2_ g3_
    simp only [List.map_cons,List.map_nil,g0_,g1_,g2_,g3_] at he
    subst he
    simp only [Tr.run] at h
    cases hc:(decide (n = fl.length) && decide (fl.length ≤ big) && decide (okFld fl = true) && decide ((out.length:Int) = i) && decide (0 ≤ i) && decide (i ≤ fl.length)) with
    | false => rw [hc] at h; simp at h
    | true =>
    rw [hc] at h
    simp only [Bool.and_eq_true,decide_eq_true_eq] at hc
    obtain ⟨⟨⟨⟨⟨c0,c1⟩,c2⟩,c3⟩,c4⟩,c5⟩:=hc
    refine (loop18_0 FU fl n k f t path name b c a ti p1 b2 cm2 a2 ti2 p2 p3 K c0 c1 c2 FU out i c3 c4 c5 (by unfold FU; unfold big at *; omega)).trans ?_
    rw [← h]
    rfl
  · simp [Tr.run] at h
theorem ok18 (W0:World):EKOk Tryz.prog W0 18 (.pure S18):=by
  refine pure_of (tyOk FU [(62,.pure S62),(63,.pure S63)]) (look_ok (all_cons (ok62 W0) (all_cons (ok63 W0) all_nil))) mixed fn18 (lps18 FU rfl) fun args r h => ?_
  unfold S18 at h
  split at h
  · rename_i k f t path name b c a ti p1 b2 cm2 a2 ti2 p2 p3
    refine (run18 FU k f t path name b c a ti p1 b2 cm2 a2 ti2 p2 p3).trans (Eq.trans ?_ h)
    obtain ⟨q1,q2⟩:=fields_ok k
    have q1:(intsD (fieldsI k)).length ≤ big:=by unfold big; omega
    simp only [Tr.val_ok,Tr.val_chk,chk_i,Bool.and_eq_true,decide_eq_true_eq,q1,q2,List.drop_zero,Int.toNat_zero,List.nil_append,srcC]
    simp
  · simp [Tr.val_no] at h
end Go.PS
end

section
namespace Go.PS
open Go.Proofs
theorem idxP_append (f:DV → Bool) (b:List DV):∀ (a:List DV) (i:Int),idxP f (a ++ b) i = if a.any f = true then idxP f a i else idxP f b (i + a.length):=by
  intro a
  induction a with
  | nil => intro i; simp
  | cons x a ih =>
    intro i
    simp only [List.cons_append,idxP,List.any_cons,Bool.or_eq_true]
    by_cases h:f x = true
    · simp [h]
    · rw [if_neg h,ih]
      have e:(f x = true ∨ a.any f = true) ↔ a.any f = true:=by simp [h]
      simp only [e,if_neg h,List.length_cons]
      by_cases q:a.any f = true
      · rw [if_pos q,if_pos q]
      · rw [if_neg q,if_neg q]; congr 1; push_cast; omega
theorem idxP_get (f:DV → Bool):∀ (l:List DV) (i:Int),0 ≤ i → 0 ≤ idxP f l i → ∃ j:Nat,j < l.length ∧ idxP f l i = i + j ∧ f (gt .nili l j) = true ∧ gt .nili l j ∈ l:=by
  intro l
  induction l with
  | nil => intro i _ h; simp [idxP] at h
  | cons x l ih =>
    intro i hi h
    unfold idxP at h ⊢
    by_cases hx:f x = true
    · rw [if_pos hx]
      exact ⟨0,by simp,by simp,hx,List.mem_cons_self⟩
    · rw [if_neg hx] at h ⊢
      obtain ⟨j,h1,h2,h3,h4⟩:=ih (i + 1) (by omega) h
      exact ⟨j + 1,by simpa using h1,by rw [h2]; push_cast; omega,h3,List.mem_cons_of_mem _ h4⟩
theorem findC_get {l:List DV} {s:Str} (h:0 ≤ findC l s):(findC l s).toNat < l.length ∧ cS (gt .nili l (findC l s).toNat) 0 = s ∧ gt .nili l (findC l s).toNat ∈ l:=by
  obtain ⟨j,h1,h2,h3,h4⟩:=idxP_get _ l 0 (by omega) h
  have e:(findC l s).toNat = j:=by unfold findC; rw [h2]; omega
  rw [e]
  exact ⟨h1,by simpa using h3,h4⟩
theorem findC_neg {l:List DV} {s:Str}:findC l s < 0 ↔ ∀ x ∈ l,cS x 0 ≠ s:=by
  have h:=idxP_any (fun x => decide (cS x 0 = s)) l 0 (by omega)
  unfold findC
  constructor
  · intro h1 x hx e
    have:(l.any fun x => decide (cS x 0 = s)) = true:=List.any_eq_true.2 ⟨x,hx,by simpa using e⟩
    rw [← h] at this
    simp at this; omega
  · intro h1
    have:(l.any fun x => decide (cS x 0 = s)) = false:=by
      rw [List.any_eq_false]; intro x hx; simpa using h1 x hx
    rw [← h] at this
    simp at this; omega
def disj (v:DV) (l:List DV):Prop:=∀ x ∈ l,cS x 0 ≠ cS v 0
def dist:List DV → List DV → Prop
  | _,[] => True
  | pre,v :: r => disj v pre ∧ dist (pre ++ [v]) r
theorem dist_snoc (x:DV):∀ (r pre:List DV),dist pre (r ++ [x]) ↔ dist pre r ∧ disj x (pre ++ r):=by
  intro r
  induction r with
  | nil => intro pre; simp [dist]
  | cons v r ih =>
    intro pre
    simp only [List.cons_append,dist,ih,List.append_assoc,List.nil_append,and_assoc]
theorem find_at {pre r:List DV} {v:DV}:findC (pre ++ v :: r) (cS v 0) = pre.length ↔ disj v pre:=by
  unfold findC
  rw [idxP_append]
  have hv:idxP (fun x => decide (cS x 0 = cS v 0)) (v :: r) (0 + pre.length) = pre.length:=by
    unfold idxP; rw [if_pos (by simp)]; omega
  constructor
  · intro h x hx e
    have ha:(pre.any fun x => decide (cS x 0 = cS v 0)) = true:=List.any_eq_true.2 ⟨x,hx,by simpa using e⟩
    rw [if_pos ha] at h
    obtain ⟨j,h1,h2,_⟩:=idxP_get (fun x => decide (cS x 0 = cS v 0)) pre 0 (by omega) (by omega)
    omega
  · intro h
    have ha:(pre.any fun x => decide (cS x 0 = cS v 0)) = false:=by
      rw [List.any_eq_false]; intro x hx; simpa using h x hx
    rw [ha,if_neg (by simp)]; exact hv
theorem cnAll_iff:∀ (r pre:List DV),cnAll (pre ++ r) r pre.length = true ↔ (∀ v ∈ r,cn1 v = true) ∧ dist pre r:=by
  intro r
  induction r with
  | nil => intro pre; simp [cnAll,dist]
  | cons v r ih =>
    intro pre
    have h:=ih (pre ++ [v])
    rw [List.append_assoc,List.singleton_append,List.length_append,List.length_singleton] at h
    simp only [cnAll,Bool.and_eq_true,decide_eq_true_eq,find_at,dist,List.mem_cons,forall_eq_or_imp]
    rw [show ((pre.length:Int) + 1) = ((pre.length + 1:Nat):Int) by push_cast; rfl,h]
    constructor
    · rintro ⟨⟨a,b⟩,c,d⟩; exact ⟨⟨a,c⟩,b,d⟩
    · rintro ⟨⟨a,c⟩,b,d⟩; exact ⟨⟨a,b⟩,c,d⟩
theorem rightC_iff {l:List DV}:rightC l = true ↔ 1 ≤ l.length ∧ l.length ≤ 16 ∧ (∀ v ∈ l,cn1 v = true) ∧ dist [] l:=by
  have h:=cnAll_iff l []
  rw [List.nil_append,List.length_nil] at h
  unfold rightC
  simp only [Bool.and_eq_true,decide_eq_true_eq]
  rw [show (0:Int) = ((0:Nat):Int) from rfl,h]
  constructor
  · rintro ⟨⟨a,b⟩,c⟩; exact ⟨a,b,c⟩
  · rintro ⟨a,b,c⟩; exact ⟨⟨a,b⟩,c⟩
theorem named_ok {l:List DV} {once:Bool} {B:Nat} (hl:∀ v ∈ l,cn1 v = true):∀ (cols out:List DV),(namedG l once cols out).2.2 = 0 → (∀ v ∈ out,cn1 v = true) →
    (∀ v ∈ (namedG l once cols out).1,cn1 v = true) ∧ (namedG l once cols out).1.length = out.length + cols.length ∧ (once = true → dist [] out → dist [] (namedG l once cols out).1):=by
  intro cols
  induction cols with
  | nil => intro out _ h; exact ⟨h,by simp [namedG],fun _ d => d⟩
  | cons c r ih =>
    intro out h0 h
    unfold namedG at h0 ⊢
    split at h0
    · exact absurd h0 (show ¬ ((13:Int) = 0) by decide)
    · rename_i h1
      rw [if_neg h1]
      split at h0
      · exact absurd h0 (show ¬ ((7:Int) = 0) by decide)
      · rename_i h2
        rw [if_neg h2]
        obtain ⟨_,hs,hm⟩:=findC_get (l:=l) (s:=cS c 0) (by omega)
        obtain ⟨i1,i2,i3⟩:=ih (out ++ [gt .nili l (findC l (cS c 0)).toNat]) h0 (by
          intro x hx
          rcases List.mem_append.1 hx with hx | hx
          · exact h x hx
          · rw [List.mem_singleton] at hx; subst hx; exact hl _ hm)
        refine ⟨i1,by rw [i2]; simp; omega,fun ho hd => i3 ho ?_⟩
        rw [dist_snoc]
        refine ⟨hd,?_⟩
        have q:findC out (cS c 0) < 0:=by
          by_cases q:0 ≤ findC out (cS c 0)
          · exact absurd ⟨ho,q⟩ h2
          · omega
        rw [findC_neg] at q
        intro x hx
        rw [hs]
        exact q x (by simpa using hx)
theorem named_cn {l:List DV} {once:Bool} {B:Nat} (hl:l.all (okCn B) = true):∀ (cols out:List DV),out.all (okCn B) = true → (namedG l once cols out).1.all (okCn B) = true:=by
  intro cols
  induction cols with
  | nil => intro out h; exact h
  | cons c r ih =>
    intro out h
    unfold namedG
    split
    · rfl
    · split
      · rfl
      · obtain ⟨_,_,hm⟩:=findC_get (l:=l) (s:=cS c 0) (by omega)
        refine ih _ ?_
        rw [List.all_append,h]
        simpa using List.all_eq_true.1 hl _ hm
theorem named_len {l:List DV} {once:Bool}:∀ (cols out:List DV),(namedG l once cols out).1.length ≤ out.length + cols.length:=by
  intro cols
  induction cols with
  | nil => intro out; simp [namedG]
  | cons c r ih =>
    intro out
    unfold namedG
    split
    · simp
    · split
      · simp
      · refine Nat.le_trans (ih _) ?_
        simp; omega
theorem named_nil {l:List DV} {once:Bool}:∀ (cols out:List DV),(namedG l once cols out).2.2 ≠ 0 → (namedG l once cols out).1 = []:=by
  intro cols
  induction cols with
  | nil => intro out h; exact absurd rfl h
  | cons c r ih =>
    intro out h
    unfold namedG at h ⊢
    split at h
    · rename_i q; rw [if_pos q]
    · rename_i q
      rw [if_neg q]
      split at h
      · rename_i q2; rw [if_pos q2]
      · rename_i q2; rw [if_neg q2]; exact ih _ h
theorem named_at {l:List DV} {once:Bool}:∀ (cols out:List DV),(namedG l once cols out).2.2 = 0 → (namedG l once cols out).2.1 = 0:=by
  intro cols
  induction cols with
  | nil => intro out h; rfl
  | cons c r ih =>
    intro out h
    unfold namedG at h ⊢
    split at h
    · exact absurd h (show ¬ ((13:Int) = 0) by decide)
    · rename_i q
      rw [if_neg q]
      split at h
      · exact absurd h (show ¬ ((7:Int) = 0) by decide)
      · rename_i q2; rw [if_neg q2]; exact ih _ h
theorem cn1_get {l:List DV} (hl:∀ v ∈ l,cn1 v = true) {i:Nat} (hi:i < l.length):1 ≤ atI l i 1 ∧ atI l i 1 ≤ 3 ∧ nameB (atS l i 0) = true:=by
  have hm:gt .nili l i ∈ l:=by
    clear hl
    induction l generalizing i with
    | nil => simp at hi
    | cons x l ih => cases i with
      | zero => exact List.mem_cons_self
      | succ i => exact List.mem_cons_of_mem _ (ih (by simpa using hi))
  have:=hl _ hm
  unfold cn1 at this
  simp only [Bool.and_eq_true,decide_eq_true_eq] at this
  exact ⟨this.2.1,this.2.2,this.1⟩
theorem gathered_ok {k f:Int} (h1:1 ≤ f) (h2:f ≤ 3):cn1 (gatheredC k f) = true:=by
  unfold gatheredC
  split
  · rfl
  · split
    · have:nameB [108,101,97,115,116] = true:=rfl
      simp [cn1,mkCn,cS,cI,DV.cells,gt,this,h1,h2]
    · split
      · have:nameB [109,111,115,116] = true:=rfl
        simp [cn1,mkCn,cS,cI,DV.cells,gt,this,h1,h2]
      · rfl
theorem gather_ok {l cols bys:List DV} {k:Int} (hl:∀ v ∈ l,cn1 v = true) (hb:bys.length ≤ 1) (h0:(gatherG l cols bys k).2.2 = 0) :
    rightC (gatherG l cols bys k).1 = true ∧ (gatherG l cols bys k).1.length = 1 + bys.length:=by
  unfold gatherG at h0 ⊢
  split at h0
  · rename_i q; exact absurd h0 q
  rename_i q1; rw [if_neg q1]
  split at h0
  · rename_i q; exact absurd h0 q
  rename_i q2; rw [if_neg q2]
  split at h0
  · exact absurd h0 (show ¬ ((12:Int) = 0) by decide)
  rename_i q3; rw [if_neg q3]
  split at h0
  · exact absurd h0 (show ¬ ((7:Int) = 0) by decide)
  rename_i q4; rw [if_neg q4]
  obtain ⟨a1,a2,_⟩:=named_ok (B:=0) (once:=false) hl cols [] (by omega) (by simp)
  obtain ⟨b1,b2,_⟩:=named_ok (B:=0) (once:=false) hl bys [] (by omega) (by simp)
  generalize hx:(namedG l false cols []).1 = x at *
  generalize hy:(namedG l false bys []).1 = y at *
  have hk:1 ≤ ofK x ∧ ofK x ≤ 3:=by
    unfold ofK; split
    · rename_i hp; have:=cn1_get a1 hp; exact ⟨this.1,this.2.1⟩
    · omega
  have hg:=gathered_ok (k:=k) hk.1 hk.2
  simp only [List.length_nil,Nat.zero_add] at b2
  refine ⟨?_,by simp [b2]; omega⟩
  rw [rightC_iff]
  refine ⟨by simp,by simp [b2]; omega,?_,?_⟩
  · intro v hv
    rcases List.mem_append.1 hv with hv | hv
    · exact b1 v hv
    · rw [List.mem_singleton] at hv; subst hv; exact hg
  · rw [dist_snoc]
    refine ⟨?_,?_⟩
    · match y,b2 with
      | [],_ => trivial
      | [a],_ => exact ⟨(fun x hx => absurd hx (by simp)),trivial⟩
      | _ :: _ :: _,e => simp at e; omega
    · have q:findC y (cS (gatheredC k (ofK x)) 0) < 0:=by omega
      rw [findC_neg] at q
      intro z hz
      exact q z (by simpa using hz)
theorem colsB_len {l:List DV} {a b:Int} {d:Bool} (h:colsB l a b d = true):a ≤ l.length ∧ (l.length:Int) ≤ b:=by
  unfold colsB at h
  simp only [Bool.and_eq_true,decide_eq_true_eq] at h
  exact h.1
theorem step_lens {n:Nat} {s:DV} (h:stepB n s = true):1 ≤ cI s 0 ∧ cI s 0 ≤ 8 ∧ (cI s 0 = 2 → 1 ≤ (cL s 8).length ∧ (cL s 8).length ≤ 8) ∧ (5 ≤ cI s 0 → (cL s 9).length ≤ 1) ∧ (6 ≤ cI s 0 → (cL s 8).length = 1) ∧
    (cI s 0 = 1 → dep 16 (condOf s) ≠ 0):=by
  unfold stepB at h
  by_cases k1:cI s 0 = 1
  · rw [if_pos k1] at h
    simp only [Bool.and_eq_true,decide_eq_true_eq] at h
    have:=h.1.2
    refine ⟨by omega,by omega,fun e => ?_,fun e => ?_,fun e => ?_,fun _ => by omega⟩ <;> omega
  rw [if_neg k1] at h
  split at h
  · simp at h
  split at h
  · simp at h
  rename_i hq
  have hby:(cL s 9).length ≤ 1:=by
    by_cases e:colsB (cL s 9) 0 1 false = false
    · exact absurd (.inr (.inr e)) hq
    · have:=colsB_len (by simpa using e); omega
  by_cases k2:cI s 0 = 2
  · rw [if_pos k2] at h
    have:=colsB_len h
    refine ⟨by omega,by omega,fun e => ⟨by omega,by omega⟩,fun e => ?_,fun e => ?_,fun e => absurd e k1⟩ <;> omega
  rw [if_neg k2] at h
  by_cases k3:cI s 0 = 3
  · refine ⟨by omega,by omega,fun e => absurd e k2,fun e => hby,fun e => ?_,fun e => absurd e k1⟩; omega
  rw [if_neg k3] at h
  by_cases k4:cI s 0 = 4
  · refine ⟨by omega,by omega,fun e => absurd e k2,fun e => hby,fun e => ?_,fun e => absurd e k1⟩; omega
  rw [if_neg k4] at h
  by_cases k5:cI s 0 = 5
  · refine ⟨by omega,by omega,fun e => absurd e k2,fun e => hby,fun e => ?_,fun e => absurd e k1⟩; omega
  rw [if_neg k5] at h
  split at h
  · have:=colsB_len h
    refine ⟨by omega,by omega,fun e => absurd e k2,fun e => hby,fun e => by omega,fun e => absurd e k1⟩
  · simp at h
def behind (l:List DV) (s:DV):Int:=if cI s 0 = 2 then (cL s 8).length else if 5 ≤ cI s 0 ∧ cI s 0 ≤ 8 then 1 + (cL s 9).length else l.length
theorem step_right {n:Nat} {l:List DV} {s:DV} (hl:rightC l = true) (hs:stepB n s = true) (h0:(stepG n l s).2.2 = 0) :
    rightC (stepG n l s).1 = true ∧ ((stepG n l s).1.length:Int) = behind l s:=by
  obtain ⟨s1,s2,s3,s4,_,_⟩:=step_lens hs
  obtain ⟨r1,r2,r3,r4⟩:=rightC_iff.1 hl
  unfold stepG at h0 ⊢
  unfold behind
  by_cases k1:cI s 0 = 1
  · rw [if_pos k1,if_neg (by omega),if_neg (by omega)]; exact ⟨hl,rfl⟩
  rw [if_neg k1] at h0 ⊢
  by_cases k2:cI s 0 = 2
  · rw [if_pos k2] at h0 ⊢
    rw [if_pos k2]
    obtain ⟨a1,a2,a3⟩:=named_ok (B:=0) r3 _ _ h0 (by simp)
    have:=s3 k2
    simp only [List.length_nil,Nat.zero_add] at a2
    exact ⟨rightC_iff.2 ⟨by omega,by omega,a1,a3 rfl trivial⟩,by rw [a2]⟩
  rw [if_neg k2] at h0 ⊢
  rw [if_neg k2]
  by_cases k3:cI s 0 = 3
  · rw [if_pos k3,if_neg (by omega)]; exact ⟨hl,rfl⟩
  rw [if_neg k3] at h0 ⊢
  by_cases k4:cI s 0 = 4
  · rw [if_pos k4]; rw [if_neg (by omega)]; exact ⟨hl,rfl⟩
  rw [if_neg k4] at h0 ⊢
  rw [if_pos (by omega)]
  obtain ⟨a,b⟩:=gather_ok r3 (s4 (by omega)) h0
  exact ⟨a,by rw [b]; push_cast; rfl⟩
theorem gather_canon (l cols bys:List DV) (k:Int):gatherG l cols bys k = if (gatherG l cols bys k).2.2 ≠ 0 then ([],(gatherG l cols bys k).2) else ((gatherG l cols bys k).1,0,0):=by
  unfold gatherG
  grind
theorem named_canon (l:List DV) (once:Bool) (cols:List DV):namedG l once cols [] = if (namedG l once cols []).2.2 ≠ 0 then ([],(namedG l once cols []).2) else ((namedG l once cols []).1,0,0):=by
  have a:=named_nil (l:=l) (once:=once) cols []
  have b:=named_at (l:=l) (once:=once) cols []
  generalize namedG l once cols [] = x at *
  obtain ⟨x1,x2,x3⟩:=x
  grind
theorem fold_right {n:Nat}:∀ {steps l:List DV},rightC l = true → steps.all (stepB n) = true → (foldG n steps l).2.2 = 0 → rightC (foldG n steps l).1 = true:=by
  intro steps
  induction steps with
  | nil => intro l h _ _; exact h
  | cons s r ih =>
    intro l h hs h0
    simp only [List.all_cons,Bool.and_eq_true] at hs
    unfold foldG at h0 ⊢
    split at h0
    · rename_i q; exact absurd h0 q
    · rename_i q; rw [if_neg q]
      exact ih (step_right h hs.1 (by omega)).1 hs.2 h0
end Go.PS
end

section
namespace Go.PS
open Go.Proofs
set_option linter.all false
def mkW (x:Int × Int):DV:=.agg [.int .i64 x.1,.int .i64 x.2]
def S123 (B kk:Nat):List PV → Tr PV
  | [.d (.slc 2 l),.d v] => .chk (l.all (okCn big) && decide (l.length ≤ big) && okC B kk v && decide (B ≤ big)) (.ok (.d (mkW (whereW l kk v))))
  | _ => .no
theorem S123_zero (B:Nat) (args:List PV) (v:PV):(S123 B 0 args).val ≠ some v:=by
  unfold S123
  split
  · rw [okC_zero]; simp [Tr.val_chk]
  · simp [Tr.val_no]
theorem first_drop {f:DV → Int × Int} {xs:List DV} {i:Int} (h0:0 ≤ i) (h:i < xs.length):firstF f (xs.drop i.toNat) = if (f (gt .nili xs i.toNat)).2 ≠ 0 then f (gt .nili xs i.toNat) else firstF f (xs.drop (i + 1).toNat):=by
  rw [drop_gt h0 h]; rfl
def namedP (l:List DV) (once:Bool):List DV → List DV → List DV × Int × Int
  | [],out => (out,0,0)
  | c :: r,out => if findC l (cS c 0) < 0 then (out,cI c 2,13) else
    if once = true ∧ 0 ≤ findC out (cS c 0) then (out,cI c 2,7) else namedP l once r (out ++ [gt .nili l (findC l (cS c 0)).toNat])
theorem named_P (l:List DV) (once:Bool):∀ (cols out:List DV),namedG l once cols out = if (namedP l once cols out).2.2 ≠ 0 then ([],(namedP l once cols out).2) else namedP l once cols out:=by
  intro cols
  induction cols with
  | nil => intro out; rfl
  | cons c r ih =>
    intro out
    unfold namedG namedP
    split
    · rfl
    · split
      · rfl
      · exact ih _
theorem namedP_drop {l:List DV} {once:Bool} {xs out:List DV} {i:Int} (h0:0 ≤ i) (h:i < xs.length):namedP l once (xs.drop i.toNat) out = if findC l (cS (gt .nili xs i.toNat) 0) < 0 then (out,cI (gt .nili xs i.toNat) 2,13) else
    if once = true ∧ 0 ≤ findC out (cS (gt .nili xs i.toNat) 0) then (out,cI (gt .nili xs i.toNat) 2,7) else namedP l once (xs.drop (i + 1).toNat) (out ++ [gt .nili l (findC l (cS (gt .nili xs i.toNat) 0)).toNat]):=by
  rw [drop_gt h0 h]; rfl
def S124 (B:Nat):List PV → Tr PV
  | [.d (.slc 2 l),.d (.slc 3 cols),.d (.bool once)] => .chk (l.all (okCn big) && decide (l.length ≤ big) && cols.all (okCol B) && decide (cols.length ≤ B) && decide (B ≤ big))
      (.cnd (decide ((namedG l once cols []).2.2 = 0)) (.ok (.tup [.own 2 (namedG l once cols []).1,.d (mkW (0,0))])) (.ok (.tup [.own 2 [],.d (mkW (namedG l once cols []).2)])))
  | _ => .no
def T123_0 (B kk:Nat) (st:St):Tr (Ex × St) :=
  bif shape 64 [0,3,4,10,11,12] st.slots then
    match gt .undef st.slots 0,gt .undef st.slots 3,gt .undef st.slots 4,gt .undef st.slots 10,gt .undef st.slots 11,gt .undef st.slots 12,st.heap with
    | .d (.slc 2 l),.ptr 0 0,.ptr 1 0,.d (.slc 7 L2),.d (.int .i64 n),.d (.int .i64 i),[.cells [.d (.int .i64 k),.d (.str c),.d (.int .i64 vk),.d (.int .i64 vn),.d (.str vs),.d (.slc 7 L),.d (.int .i64 p)],.cells [.d (.int .i64 0),.d (.int .i64 0)]] =>
      .chk (decide (n = L2.length) && decide (L2.length ≤ big) && decide (l.all (okCn big) = true) && decide (l.length ≤ big) && decide (B ≤ big) && decide (L2.all (okC B kk) = true) && decide (0 ≤ i) && decide (i ≤ L2.length)) (.cnd (decide ((firstF (whereW l kk) (L2.drop i.toNat)).2 = 0)) (.ok (.exit 0,⟨slots 64 [(0,.d (.slc 2 l)),(3,.ptr 0 0),(4,.ptr 1 0)],[.cells [.d (.int .i64 k),.d (.str c),.d (.int .i64 vk),.d (.int .i64 vn),.d (.str vs),.d (.slc 7 L),.d (.int .i64 p)],.cells [.d (.int .i64 0),.d (.int .i64 0)]]⟩)) (.ok (.ret,⟨slots 64 [(0,.d (.slc 2 l)),(3,.ptr 0 0),(4,.ptr 1 0)],[.cells [.d (.int .i64 k),.d (.str c),.d (.int .i64 vk),.d (.int .i64 vn),.d (.str vs),.d (.slc 7 L),.d (.int .i64 p)],.cells [.d (.int .i64 (firstF (whereW l kk) (L2.drop i.toNat)).1),.d (.int .i64 (firstF (whereW l kk) (L2.drop i.toNat)).2)]]⟩)))
    | _,_,_,_,_,_,_ => .no
  else .no
def L123 (B kk:Nat):Lps:=fun i => bif Nat.beq i 2 then some (allBut 64 [0,3,4,10,11,12],allBut 64 [0,3,4],T123_0 B kk) else none
def T124_0 (B:Nat) (st:St):Tr (Ex × St) :=
  bif shape 48 [0,2,7,8,12,13,14] st.slots then
    match gt .undef st.slots 0,gt .undef st.slots 2,gt .undef st.slots 7,gt .undef st.slots 8,gt .undef st.slots 12,gt .undef st.slots 13,gt .undef st.slots 14,st.heap with
    | .d (.slc 2 l),.d (.bool once),.ptr 0 0,.own 2 out,.d (.slc 3 cols),.d (.int .i64 n),.d (.int .i64 i),[.cells [.d (.int .i64 0),.d (.int .i64 0)]] =>
      .chk (decide (n = cols.length) && decide (cols.length ≤ B) && decide (cols.all (okCol B) = true) && decide (l.all (okCn big) = true) && decide (l.length ≤ big) && decide (B ≤ big) && decide (out.all (okCn big) = true) && decide ((out.length:Int) = i) && decide (0 ≤ i) && decide (i ≤ cols.length)) (.cnd (decide ((namedP l once (cols.drop i.toNat) out).2.2 = 0)) (.ok (.exit 0,⟨slots 48 [(7,.ptr 0 0),(8,.own 2 (namedP l once (cols.drop i.toNat) out).1)],[.cells [.d (.int .i64 0),.d (.int .i64 0)]]⟩)) (.ok (.ret,⟨slots 48 [(6,.own 2 []),(7,.ptr 0 0),(8,.own 2 (namedP l once (cols.drop i.toNat) out).1)],[.cells [.d (.int .i64 (namedP l once (cols.drop i.toNat) out).2.1),.d (.int .i64 (namedP l once (cols.drop i.toNat) out).2.2)]]⟩)))
    | _,_,_,_,_,_,_,_ => .no
  else .no
def L124 (B:Nat):Lps:=fun i => bif Nat.beq i 3 then some (allBut 48 [0,2,7,8,12,13,14],allBut 48 [6,7,8],T124_0 B) else none
end Go.PS
end

section
namespace Go.PS
open Go.Proofs
set_option maxRecDepth 100000
theorem round123_0 (F:Nat) {R:Type} (B kk:Nat) (l L2:List DV) (n i:Int) (k:Int) (c:Str) (vk vn:Int) (vs:Str) (L:List DV) (p:Int) (K:Ex →
 St → Option R) (G:St → Option R):roundK (pcodeK (ctx F [(22,.pure S22),(123,.pure (S123 B kk)),(191,.pure S191)]) noL (lp Tryz.f123 0)) 2 (allBut 64 [0,
 3,4,10,11,12] ++ temps (lp Tryz.f123 0)) (allBut 64 [0,3,4]) ⟨slots 64 [(0,.d (.slc 2 l)),(3,.ptr 0 0),(4,.ptr 1 0),(10,.d (.slc 7 L2)),(11,.d
 (.int .i64 n)),(12,.d (.int .i64 i))],[.cells [.d (.int .i64 k),.d (.str c),.d (.int .i64 vk),.d (.int .i64 vn),.d (.str vs),.d (.slc 7 L),.d (.int .i64
 p)],.cells [.d (.int .i64 0),.d (.int .i64 0)]]⟩ K G = Tr.run (.cnd (decide (i < n)) (.chk (decide (0 ≤ i)) (.chk (decide (i.toNat < L2.length)) (.chk (fits
 [.int .i64 0,.str [],.int .i64 0,.int .i64 0,.str [],.nils 7,.int .i64 0] (gt DV.nili L2 i.toNat).cells) (.chk (l.all (okCn big) && decide (l.length ≤ big)
 && okC B kk (DV.agg [view L2 i.toNat 0 (.int .i64 0),view L2 i.toNat (0 + 1) (.str []),view L2 i.toNat (0 + 1 + 1) (.int .i64 0),view L2 i.toNat (0 + 1 + 1 +
 1) (.int .i64 0),view L2 i.toNat (0 + 1 + 1 + 1 + 1) (.str []),view L2 i.toNat (0 + 1 + 1 + 1 + 1 + 1) (.nils 7),view L2 i.toNat (0 + 1 + 1 + 1 + 1 + 1 + 1)
 (.int .i64 0)]) && decide (B ≤ big)) (.cnd (!decide ((whereW l kk (DV.agg [view L2 i.toNat 0 (.int .i64 0),view L2 i.toNat (0 + 1) (.str []),view L2 i.toNat (0
 + 1 + 1) (.int .i64 0),view L2 i.toNat (0 + 1 + 1 + 1) (.int .i64 0),view L2 i.toNat (0 + 1 + 1 + 1 + 1) (.str []),view L2 i.toNat (0 + 1 + 1 + 1 + 1 + 1)
 (.nils 7),view L2 i.toNat (0 + 1 + 1 + 1 + 1 + 1 + 1) (.int .i64 0)])).snd = 0)) (.ok (.inl (Ex.ret,⟨slots 64 [(0,.d (.slc 2 l)),(3,PV.ptr 0 0),(4,PV.ptr
 1 0)],[PObj.cells [.d (.int .i64 k),.d (.str c),.d (.int .i64 vk),.d (.int .i64 vn),.d (.str vs),.d (.slc 7 L),.d (.int .i64 p)],PObj.cells [.d (.int
 .i64 (whereW l kk (DV.agg [view L2 i.toNat 0 (.int .i64 0),view L2 i.toNat (0 + 1) (.str []),view L2 i.toNat (0 + 1 + 1) (.int .i64 0),view L2 i.toNat (0 + 1
 + 1 + 1) (.int .i64 0),view L2 i.toNat (0 + 1 + 1 + 1 + 1) (.str []),view L2 i.toNat (0 + 1 + 1 + 1 + 1 + 1) (.nils 7),view L2 i.toNat (0 + 1 + 1 + 1 + 1 + 1
 + 1) (.int .i64 0)])).fst),.d (.int .i64 (whereW l kk (DV.agg [view L2 i.toNat 0 (.int .i64 0),view L2 i.toNat (0 + 1) (.str []),view L2 i.toNat (0 + 1 + 1)
 (.int .i64 0),view L2 i.toNat (0 + 1 + 1 + 1) (.int .i64 0),view L2 i.toNat (0 + 1 + 1 + 1 + 1) (.str []),view L2 i.toNat (0 + 1 + 1 + 1 + 1 + 1) (.nils 7),
 view L2 i.toNat (0 + 1 + 1 + 1 + 1 + 1 + 1) (.int .i64 0)])).snd)]]⟩))) (.ok (.inr ⟨slots 64 [(0,.d (.slc 2 l)),(3,PV.ptr 0 0),(4,PV.ptr 1 0),(10,.d (.slc
 7 L2)),(11,.d (.int .i64 n)),(12,.d (.int .i64 (IntKind.i64.wrap (i + 1))))],[PObj.cells [.d (.int .i64 k),.d (.str c),.d (.int .i64 vk),.d (.int .i64
 vn),.d (.str vs),.d (.slc 7 L),.d (.int .i64 p)],PObj.cells [.d (.int .i64 (0)),.d (.int .i64 (0))]]⟩))))))) (.ok (.inl (Ex.exit 0,⟨slots 64 [(0,.d (.slc
 2 l)),(3,PV.ptr 0 0),(4,PV.ptr 1 0)],[PObj.cells [.d (.int .i64 k),.d (.str c),.d (.int .i64 vk),.d (.int .i64 vn),.d (.str vs),.d (.slc 7 L),.d (.int
 .i64 p)],PObj.cells [.d (.int .i64 (0)),.d (.int .i64 (0))]]⟩)))) (rnd K G):=by kernel_rfl
theorem fn123:FnOk Tryz.prog 123 64 [.cell 4 110] (body Tryz.f123):=⟨Tryz.f123,Tryz.func123,bodySome _ (by kernel_rfl),by kernel_rfl,by kernel_rfl,by kernel_rfl,by kernel_rfl⟩
theorem run123 (F:Nat) (B kk:Nat) (l:List DV) (k:Int) (c:Str) (vk vn:Int) (vs:Str) (L:List DV) (p:Int):runP (ctx F [(22,.pure S22),(123,
 .pure (S123 B kk)),(191,.pure S191)]) (L123 B kk) 64 [.cell 4 110] (body Tryz.f123) [.d (.slc 2 l),.d (.agg [.int .i64 k,.str c,.int .i64 vk,.int .i64 vn,
 .str vs,.slc 7 L,.int .i64 p])] = Tr.val (.chk (decide ((↑L.length:Int) = (↑L.length:Int)) && decide (L.length ≤ big) && decide (l.all (okCn big) = true)
 && decide (l.length ≤ big) && decide (B ≤ big) && decide (L.all (okC B kk) = true) && decide (0 ≤ 0) && decide (0 ≤ (↑L.length:Int))) (.cnd (decide ((firstF
 (whereW l kk) (List.drop (Int.toNat 0) L)).snd = 0)) (.cnd (decide ((↑L.length:Int) > 0)) (.ok (PV.d (DV.agg [.int .i64 (0),.int .i64 (0)]))) (.chk (l.all
 (okCn ML) && decide (l.length ≤ big)) (.cnd (decide (findC l c < 0)) (.ok (PV.d (DV.agg [.int .i64 p,.int .i64 (13)]))) (.chk (decide (0 ≤ findC l c)) (.chk
 (decide ((findC l c).toNat < l.length)) (.chk (fits [.str [],.int .i64 0] (gt DV.nili l (findC l c).toNat).cells) (.cnd (!fitsK (atI l (findC l c).toNat (0 +
 1)) vk) (.ok (PV.d (DV.agg [.int .i64 p,.int .i64 (12)]))) (.cnd (decide (k = 10)) (.chk (decide (0 ≤ findC l c)) (.chk (decide ((findC l c).toNat < l.length))
 (.chk (fits [.str [],.int .i64 0] (gt DV.nili l (findC l c).toNat).cells) (.cnd (decide (atI l (findC l c).toNat (0 + 1) = 1)) (.ok (PV.d (DV.agg [.int .i64 p,
 .int .i64 (12)]))) (.ok (PV.d (DV.agg [.int .i64 (0),.int .i64 (0)]))))))) (.ok (PV.d (DV.agg [.int .i64 (0),.int .i64 (0)]))))))))))) (.ok (PV.d (DV.agg [.int
 .i64 (firstF (whereW l kk) (List.drop (Int.toNat 0) L)).fst,.int .i64 (firstF (whereW l kk) (List.drop (Int.toNat 0) L)).snd]))))):=by kernel_rfl
theorem round124_0 (F:Nat) {R:Type} (l cols out:List DV) (once:Bool) (n i:Int) (K:Ex → St → Option R) (G:St → Option R):roundK (pcodeK (ctxL F
 [(22,.pure S22)]) noL (lp Tryz.f124 0)) 1 (allBut 48 [0,2,7,8,12,13,14] ++ temps (lp Tryz.f124 0)) (allBut 48 [6,7,8]) ⟨slots 48 [(0,.d (.slc 2 l)),
 (2,.d (.bool once)),(7,.ptr 0 0),(8,.own 2 out),(12,.d (.slc 3 cols)),(13,.d (.int .i64 n)),(14,.d (.int .i64 i))],[.cells [.d (.int .i64 0),.d
 (.int .i64 0)]]⟩ K G = Tr.run (.cnd (decide (i < n)) (.chk (decide (0 ≤ i)) (.chk (decide (i.toNat < cols.length)) (.chk (fits [.str [],.bool false,.int .i64
 0] (gt DV.nili cols i.toNat).cells) (.chk (l.all (okCn ML) && decide (l.length ≤ big)) (.cnd (decide (findC l (atS cols i.toNat 0) < 0)) (.ok (.inl (Ex.ret,
 ⟨slots 48 [(6,PV.own 2 []),(7,PV.ptr 0 0),(8,PV.own 2 out)],[PObj.cells [.d (.int .i64 (atI cols i.toNat (0 + 1 + 1))),.d (.int .i64 (13))]]⟩))) (.cnd
 (once) (.chk (out.all (okCn ML) && decide (out.length ≤ big)) (.cnd (decide (findC out (atS cols i.toNat 0) ≥ 0)) (.ok (.inl (Ex.ret,⟨slots 48 [(6,PV.own 2
 []),(7,PV.ptr 0 0),(8,PV.own 2 out)],[PObj.cells [.d (.int .i64 (atI cols i.toNat (0 + 1 + 1))),.d (.int .i64 (7))]]⟩))) (.chk (decide (0 ≤ findC l (atS
 cols i.toNat 0))) (.chk (decide ((findC l (atS cols i.toNat 0)).toNat < l.length)) (.chk (fits [.str [],.int .i64 0] (gt DV.nili l (findC l (atS cols i.toNat
 0)).toNat).cells) (.chk (limit 24 (out.length + ([DV.agg [view l (findC l (atS cols i.toNat 0)).toNat 0 (.str []),view l (findC l (atS cols i.toNat 0)).toNat (0
 + 1) (.int .i64 0)]]).length)) (.ok (.inr ⟨slots 48 [(0,.d (.slc 2 l)),(2,.d (.bool once)),(7,PV.ptr 0 0),(8,PV.own 2 (out ++ [DV.agg [.str (atS l (findC
 l (atS cols i.toNat 0)).toNat 0),.int .i64 (atI l (findC l (atS cols i.toNat 0)).toNat (0 + 1))]])),(12,.d (.slc 3 cols)),(13,.d (.int .i64 n)),(14,.d
 (.int .i64 (IntKind.i64.wrap (i + 1))))],[PObj.cells [.d (.int .i64 (0)),.d (.int .i64 (0))]]⟩)))))))) (.chk (decide (0 ≤ findC l (atS cols i.toNat 0))) (.chk
 (decide ((findC l (atS cols i.toNat 0)).toNat < l.length)) (.chk (fits [.str [],.int .i64 0] (gt DV.nili l (findC l (atS cols i.toNat 0)).toNat).cells) (.chk
 (limit 24 (out.length + ([DV.agg [view l (findC l (atS cols i.toNat 0)).toNat 0 (.str []),view l (findC l (atS cols i.toNat 0)).toNat (0 + 1) (.int .i64
 0)]]).length)) (.ok (.inr ⟨slots 48 [(0,.d (.slc 2 l)),(2,.d (.bool once)),(7,PV.ptr 0 0),(8,PV.own 2 (out ++ [DV.agg [.str (atS l (findC l (atS cols
 i.toNat 0)).toNat 0),.int .i64 (atI l (findC l (atS cols i.toNat 0)).toNat (0 + 1))]])),(12,.d (.slc 3 cols)),(13,.d (.int .i64 n)),(14,.d (.int .i64
 (IntKind.i64.wrap (i + 1))))],[PObj.cells [.d (.int .i64 (0)),.d (.int .i64 (0))]]⟩)))))))))))) (.ok (.inl (Ex.exit 0,⟨slots 48 [(7,PV.ptr 0 0),(8,PV.own 2
 out)],[PObj.cells [.d (.int .i64 (0)),.d (.int .i64 (0))]]⟩)))) (rnd K G):=by kernel_rfl
theorem fn124:FnOk Tryz.prog 124 48 [.tmp 6,.cell 7 110] (body Tryz.f124):=⟨Tryz.f124,Tryz.func124,bodySome _ (by kernel_rfl),by kernel_rfl,by kernel_rfl,by kernel_rfl,by kernel_rfl⟩
theorem run124 (F:Nat) (B:Nat) (l cols:List DV) (once:Bool):runP (ctxL F [(22,.pure S22)]) (L124 B) 48 [.tmp 6,.cell 7 110] (body Tryz.f124) [.d
 (.slc 2 l),.d (.slc 3 cols),.d (.bool once)] = Tr.val (.chk (decide ((↑cols.length:Int) = (↑cols.length:Int)) && decide (cols.length ≤ B) && decide
 (cols.all (okCol B) = true) && decide (l.all (okCn big) = true) && decide (l.length ≤ big) && decide (B ≤ big) && decide ([].all (okCn big) = true) && decide ((0
 : Int) = 0) && decide (0 ≤ 0) && decide (0 ≤ (↑cols.length:Int))) (.cnd (decide ((namedP l once (List.drop (Int.toNat 0) cols) []).snd.snd = 0)) (.ok (PV.tup
 [PV.own 2 (namedP l once (List.drop (Int.toNat 0) cols) []).fst,.d (DV.agg [.int .i64 (0),.int .i64 (0)])])) (.ok (PV.tup [PV.own 2 [],.d (DV.agg [.int .i64
 (namedP l once (List.drop (Int.toNat 0) cols) []).snd.fst,.int .i64 (namedP l once (List.drop (Int.toNat 0) cols) []).snd.snd])])))):=by kernel_rfl
end Go.PS
end

section
namespace Go.PS
open Go.Proofs
set_option linter.all false
theorem loop123_0 (F:Nat) {R:Type} (B:Nat) (kk:Nat) (l:List DV) (L2:List DV) (n:Int) (k:Int) (c:Str) (vk:Int) (vn:Int) (vs:Str) (L:List DV) (p:Int) (K:Ex → St → Option R) (g0:n = L2.length) (g1:L2.length ≤ big) (g2:l.all (okCn big) = true) (g3:l.length ≤ big) (g4:B ≤ big) (g5:L2.all (okC B kk) = true) :
    ∀ (m:Nat) (i:Int),0 ≤ i → i ≤ L2.length → (L2.length - i).toNat < m →
      loopK (pcodeK (ctx F [(22,.pure S22),(123,.pure (S123 B kk)),(191,.pure S191)]) noL (lp Tryz.f123 0)) 2 (allBut 64 [0,3,4,10,11,12] ++ temps (lp Tryz.f123 0)) (allBut 64 [0,3,4]) m
        ⟨slots 64 [(0,.d (.slc 2 l)),(3,.ptr 0 0),(4,.ptr 1 0),(10,.d (.slc 7 L2)),(11,.d (.int .i64 n)),(12,.d (.int .i64 i))],[.cells [.d (.int .i64 k),.d (.str c),.d (.int .i64 vk),.d (.int .i64 vn),.d (.str vs),.d (.slc 7 L),.d (.int .i64 p)],.cells [.d (.int .i64 0),.d (.int .i64 0)]]⟩ K =
      Tr.run (.cnd (decide ((firstF (whereW l kk) (L2.drop i.toNat)).2 = 0)) (.ok (.exit 0,⟨slots 64 [(0,.d (.slc 2 l)),(3,.ptr 0 0),(4,.ptr 1 0)],[.cells [.d (.int .i64 k),.d (.str c),.d (.int .i64 vk),.d (.int .i64 vn),.d (.str vs),.d (.slc 7 L),.d (.int .i64 p)],.cells [.d (.int .i64 0),.d (.int .i64 0)]]⟩)) (.ok (.ret,⟨slots 64 [(0,.d (.slc 2 l)),(3,.ptr 0 0),(4,.ptr 1 0)],[.cells [.d (.int .i64 k),.d (.str c),.d (.int .i64 vk),.d (.int .i64 vn),.d (.str vs),.d (.slc 7 L),.d (.int .i64 p)],.cells [.d (.int .i64 (firstF (whereW l kk) (L2.drop i.toNat)).1),.d (.int .i64 (firstF (whereW l kk) (L2.drop i.toNat)).2)]]⟩))) (fun p => K p.1 p.2):=by
  intro m
  induction m with
  | zero => intro i; intros; omega
  | succ m ih =>
    intro i h0 h1 hm
    rw [loopK_succ,round123_0]
    unfold big at g1
    simp only [Tr.run,rnd,cnd_i,chk_i,Bool.and_eq_true,decide_eq_true_eq]
    by_cases hi:i < n
    · have w:IntKind.i64.wrap (i + 1) = i + 1:=wrap64 (by omega) (by omega)
      have hx:=all_gt g5 (i:=i) (by omega) (by omega)
      have ht:=okC_fits hx
      rw [okC_view hx]
      have ih1:=ih (i + 1)
      simp only [Tr.run,cnd_i] at ih1
      rw [first_drop (by omega) (by omega)]
      clear ih
      rw [ht,hx]
      generalize whereW l kk (gt .nili L2 i.toNat) = q at *
      grind
    · have:L2.drop i.toNat = []:=List.drop_of_length_le (by omega)
      rw [this]
      simp [hi,firstF]
theorem lps123 (F:Nat) (hF:F = FU) (B kk:Nat):LpsOk (ctx F [(22,.pure S22),(123,.pure (S123 B kk)),(191,.pure S191)]) (L123 B kk) (loopsOf (body Tryz.f123)):=by
  subst hF
  refine lps_one (c:=lp Tryz.f123 0) rfl (by kernel_rfl) fun R st K r h => ?_
  unfold T123_0 at h
  cases hs:shape 64 [0,3,4,10,11,12] st.slots with
  | false => rw [hs] at h; simp [Tr.run] at h
  | true =>
  rw [hs] at h
  simp only [cond_true] at h
  have he:=shape_eq hs
  obtain ⟨sl0,H⟩:=st
  dsimp only at h he ⊢
  split at h
  · rename_i l L2 n i k c vk vn vs L p g0_ g1_ g2_ g3_ g4_ g5_
    simp only [List.map_cons,List.map_nil,g0_,g1_,g2_,g3_,g4_,g5_] at he
    subst he
    simp only [Tr.run] at h
    cases hc:(decide (n = L2.length) && decide (L2.length ≤ big) && decide (l.all (okCn big) = true) && decide (l.length ≤ big) && decide (B ≤ big) && decide (L2.all (okC B kk) = true) && decide (0 ≤ i) && decide (i ≤ L2.length)) with
    | false => rw [hc] at h; simp at h
    | true =>
    rw [hc] at h
    simp only [Bool.and_eq_true,decide_eq_true_eq] at hc
    obtain ⟨⟨⟨⟨⟨⟨⟨c0,c1⟩,c2⟩,c3⟩,c4⟩,c5⟩,c6⟩,c7⟩:=hc
    refine (loop123_0 FU B kk l L2 n k c vk vn vs L p K c0 c1 c2 c3 c4 c5 FU i c6 c7 (by unfold FU; (try unfold big at *); omega)).trans ?_
    rw [← h]
    rfl
  · simp [Tr.run] at h
theorem ok123s (W0:World) (hW:Laid W0) (B kk:Nat) (ih:EKOk Tryz.prog W0 123 (.pure (S123 B kk))):EKOk Tryz.prog W0 123 (.pure (S123 B (kk + 1))):=by
  refine pure_of (tyOk FU [(22,.pure S22),(123,.pure (S123 B kk)),(191,.pure S191)]) (look_ok (all_cons (ok22 W0) (all_cons ih (all_cons (ok191 W0) all_nil)))) mixed fn123 (lps123 FU rfl B kk) fun args r h => ?_
  unfold S123 at h
  split at h
  · rename_i l v
    simp only [Tr.val_chk,chk_some,Bool.and_eq_true,decide_eq_true_eq] at h
    obtain ⟨⟨⟨⟨h6,h7⟩,hv⟩,hB⟩,h⟩:=h
    obtain ⟨k,c,vk,vn,vs,L,p,rfl,h1,h2,h3,h4,h5⟩:=okC_inv hv
    refine (run123 FU B kk l k c vk vn vs L p).trans (Eq.trans ?_ h)
    have e0:whereW l (kk + 1) (.agg [.int .i64 k,.str c,.int .i64 vk,.int .i64 vn,.str vs,.slc 7 L,.int .i64 p]) = if (firstF (whereW l kk) L).2 ≠ 0 then firstF (whereW l kk) L else if 0 < L.length then (0,0) else
      if findC l c < 0 then (p,13) else if fitsK (atI l (findC l c).toNat 1) vk = false ∨ (k = 10 ∧ atI l (findC l c).toNat 1 = 1) then (p,12) else (0,0):=rfl
    have hM:l.all (okCn ML) = true:=okCn_le h6 (by unfold big ML; omega)
    have hf:0 ≤ findC l c → (findC l c).toNat < l.length ∧ fits [.str [],.int .i64 0] (gt .nili l (findC l c).toNat).cells = true:=fun q =>
      ⟨(findC_get q).1,okCn_fits (all_gt h6 (i:=findC l c) q (by have:=(findC_get q).1; omega))⟩
    have hb:L.length ≤ big:=by omega
    have e2:((L.length:Int) > 0) ↔ 0 < L.length:=by omega
    rw [e0]
    simp only [Tr.val_ok,Tr.val_cnd,Tr.val_chk,cnd_i,chk_i,Bool.and_eq_true,decide_eq_true_eq,List.drop_zero,Int.toNat_zero,Nat.zero_add,mkW,e2,hM,hb,h5,h6,h7,hB,and_self,if_true]
    clear h ih hv e0 h1 h2 h3 h4 hM h6
    generalize firstF (whereW l kk) L = q at *
    generalize findC l c = j at *
    generalize fits [.str [],.int .i64 0] (gt .nili l j.toNat).cells = z at *
    generalize atI l j.toNat 1 = y at *
    grind
  · simp [Tr.val_no] at h
theorem loop124_0 (F:Nat) {R:Type} (B:Nat) (l:List DV) (cols:List DV) (once:Bool) (n:Int) (K:Ex → St → Option R) (g0:n = cols.length) (g1:cols.length ≤ B) (g2:cols.all (okCol B) = true) (g3:l.all (okCn big) = true) (g4:l.length ≤ big) (g5:B ≤ big) :
    ∀ (m:Nat) (out:List DV) (i:Int),out.all (okCn big) = true → (out.length:Int) = i → 0 ≤ i → i ≤ cols.length → (cols.length - i).toNat < m →
      loopK (pcodeK (ctxL F [(22,.pure S22)]) noL (lp Tryz.f124 0)) 1 (allBut 48 [0,2,7,8,12,13,14] ++ temps (lp Tryz.f124 0)) (allBut 48 [6,7,8]) m
        ⟨slots 48 [(0,.d (.slc 2 l)),(2,.d (.bool once)),(7,.ptr 0 0),(8,.own 2 out),(12,.d (.slc 3 cols)),(13,.d (.int .i64 n)),(14,.d (.int .i64 i))],[.cells [.d (.int .i64 0),.d (.int .i64 0)]]⟩ K =
      Tr.run (.cnd (decide ((namedP l once (cols.drop i.toNat) out).2.2 = 0)) (.ok (.exit 0,⟨slots 48 [(7,.ptr 0 0),(8,.own 2 (namedP l once (cols.drop i.toNat) out).1)],[.cells [.d (.int .i64 0),.d (.int .i64 0)]]⟩)) (.ok (.ret,⟨slots 48 [(6,.own 2 []),(7,.ptr 0 0),(8,.own 2 (namedP l once (cols.drop i.toNat) out).1)],[.cells [.d (.int .i64 (namedP l once (cols.drop i.toNat) out).2.1),.d (.int .i64 (namedP l once (cols.drop i.toNat) out).2.2)]]⟩))) (fun p => K p.1 p.2):=by
  intro m
  induction m with
  | zero => intro out i; intros; omega
  | succ m ih =>
    intro out i h0 h1 h2 h3 hm
    rw [loopK_succ,round124_0]
    simp only [Tr.run,rnd,cnd_i,chk_i,Bool.and_eq_true,decide_eq_true_eq]
    by_cases hi:i < n
    · have w:IntKind.i64.wrap (i + 1) = i + 1:=wrap64 (by omega) (by unfold big at g5; omega)
      have hx:=all_gt g2 (i:=i) (by omega) (by omega)
      have ht:=okCol_fits hx
      have hM:l.all (okCn ML) = true:=okCn_le g3 (by unfold big ML; omega)
      have hO:out.all (okCn ML) = true:=okCn_le h0 (by unfold big ML; omega)
      have hl:∀ x:DV,limit 24 (out.length + ([x]).length) = true:=fun x => by
        unfold limit; unfold big at g5; simp only [List.length_singleton,decide_eq_true_eq]; omega
      have hf:0 ≤ findC l (atS cols i.toNat 0) → (findC l (atS cols i.toNat 0)).toNat < l.length ∧ fits [.str [],.int .i64 0] (gt .nili l (findC l (atS cols i.toNat 0)).toNat).cells = true ∧
          DV.agg [DV.str (atS l (findC l (atS cols i.toNat 0)).toNat 0),DV.int IntKind.i64 (atI l (findC l (atS cols i.toNat 0)).toNat (0 + 1))] = gt .nili l (findC l (atS cols i.toNat 0)).toNat ∧
          (out ++ [gt .nili l (findC l (atS cols i.toNat 0)).toNat]).all (okCn big) = true:=fun q => by
        have a:=(findC_get q).1
        have b:=all_gt g3 (i:=findC l (atS cols i.toNat 0)) q (by omega)
        exact ⟨a,okCn_fits b,okCn_view b,by rw [List.all_append,h0]; simpa using b⟩
      have hob:out.length ≤ big:=by omega
      rw [namedP_drop (by omega) (by omega)]
      have e1:cS (gt .nili cols i.toNat) 0 = atS cols i.toNat 0:=rfl
      have e2:cI (gt .nili cols i.toNat) 2 = atI cols i.toNat (0 + 1 + 1):=rfl
      have e3:i.toNat < cols.length:=by omega
      have e4:findC out (atS cols i.toNat 0) ≥ 0 ↔ 0 ≤ findC out (atS cols i.toNat 0):=Iff.rfl
      rw [e1,e2]
      simp only [hi,h2,e3,ht,hM,hO,g4,hob,and_self,if_true,hl,e4]
      have ih1:=fun q => ih (out ++ [gt .nili l (findC l (atS cols i.toNat 0)).toNat]) (i + 1) (hf q).2.2.2 (by simp; omega) (by omega) (by omega) (by omega)
      simp only [Tr.run,cnd_i,decide_eq_true_eq] at ih1
      clear ih
      by_cases q:findC l (atS cols i.toNat 0) < 0
      · simp only [q,if_true]; simp
      · have q0:0 ≤ findC l (atS cols i.toNat 0):=by omega
        obtain ⟨f1,f2,f3,f4⟩:=hf q0
        have ih2:=ih1 q0
        clear ih1 hf
        simp only [q,if_false,q0,f1,f2,f3,w,if_true]
        cases once
        · simp only [Bool.false_eq_true,false_and,if_false]; exact ih2
        · simp only [true_and,if_true]
          by_cases z:0 ≤ findC out (atS cols i.toNat 0)
          · simp only [z,if_true]; simp
          · simp only [z,if_false]; exact ih2
    · have:cols.drop i.toNat = []:=List.drop_of_length_le (by omega)
      rw [this]
      simp [hi,namedP]
theorem lps124 (F:Nat) (hF:F = FU) (B:Nat):LpsOk (ctxL F [(22,.pure S22)]) (L124 B) (loopsOf (body Tryz.f124)):=by
  subst hF
  refine lps_one (c:=lp Tryz.f124 0) rfl (by kernel_rfl) fun R st K r h => ?_
  unfold T124_0 at h
  cases hs:shape 48 [0,2,7,8,12,13,14] st.slots with
  | false => rw [hs] at h; simp [Tr.run] at h
  | true =>
  rw [hs] at h
  simp only [cond_true] at h
  have he:=shape_eq hs
  obtain ⟨sl0,H⟩:=st
  dsimp only at h he ⊢
  split at h
  · rename_i l once out cols n i g0_ g1_ g2_ g3_ g4_ g5_ g6_
    simp only [List.map_cons,List.map_nil,g0_,g1_,g2_,g3_,g4_,g5_,g6_] at he
    subst he
    simp only [Tr.run] at h
    cases hc:(decide (n = cols.length) && decide (cols.length ≤ B) && decide (cols.all (okCol B) = true) && decide (l.all (okCn big) = true) && decide (l.length ≤ big) && decide (B ≤ big) && decide (out.all (okCn big) = true) && decide ((out.length:Int) = i) && decide (0 ≤ i) && decide (i ≤ cols.length)) with
    | false => rw [hc] at h; simp at h
    | true =>
    rw [hc] at h
    simp only [Bool.and_eq_true,decide_eq_true_eq] at hc
    obtain ⟨⟨⟨⟨⟨⟨⟨⟨⟨c0,c1⟩,c2⟩,c3⟩,c4⟩,c5⟩,c6⟩,c7⟩,c8⟩,c9⟩:=hc
    refine (loop124_0 FU B l cols once n K c0 c1 c2 c3 c4 c5 FU out i c6 c7 c8 c9 (by unfold FU; (try unfold big at *); omega)).trans ?_
    rw [← h]
    rfl
  · simp [Tr.run] at h
theorem ok124 (W0:World) (hW:Laid W0) (B:Nat):EKOk Tryz.prog W0 124 (.pure (S124 B)):=by
  refine pure_of (tyOkL FU [(22,.pure S22)]) (look_ok (all_cons (ok22 W0) all_nil)) mixed fn124 (lps124 FU rfl B) fun args r h => ?_
  unfold S124 at h
  split at h
  · rename_i l cols once
    refine (run124 FU B l cols once).trans (Eq.trans ?_ h)
    simp only [Tr.val_chk,chk_some,Bool.and_eq_true,decide_eq_true_eq] at h
    obtain ⟨⟨⟨⟨c0,c1⟩,c2⟩,c3⟩,c4⟩:=h.1
    clear h
    have e0:([]:List DV).all (okCn big) = true:=rfl
    rw [named_P l once cols []]
    have e1:((if (namedP l once cols []).2.2 ≠ 0 then ([],(namedP l once cols []).2) else namedP l once cols []):List DV × Int × Int).2.2 = (namedP l once cols []).2.2:=by split <;> rfl
    simp only [Tr.val_ok,Tr.val_cnd,Tr.val_chk,cnd_i,chk_i,Bool.and_eq_true,decide_eq_true_eq,List.drop_zero,Int.toNat_zero,e0,e1,c0,c1,c2,c3,c4,and_self,if_true,mkW]
    by_cases q:(namedP l once cols []).2.2 = 0
    · simp [q]
    · simp [q]
  · simp [Tr.val_no] at h
end Go.PS
end

section
namespace Go.PS
open Go.Proofs
theorem first_zero {f:DV → Int × Int}:∀ {l:List DV},(firstF f l).2 = 0 → firstF f l = (0,0):=by
  intro l
  induction l with
  | nil => intro _; rfl
  | cons x r ih =>
    intro h
    unfold firstF at h ⊢
    split at h
    · rename_i q; exact absurd h q
    · rename_i q; rw [if_neg q]; exact ih h
theorem first_congr {f g:DV → Int × Int}:∀ {l:List DV},(∀ x ∈ l,f x = g x) → firstF f l = firstF g l:=by
  intro l
  induction l with
  | nil => intro _; rfl
  | cons x r ih =>
    intro h
    unfold firstF
    rw [h x List.mem_cons_self,ih fun y hy => h y (List.mem_cons_of_mem _ hy)]
theorem leaf_eq {l:List DV} (hl:∀ v ∈ l,cn1 v = true) (v:DV):leafW l v = leafQ l v:=by
  unfold leafW leafQ
  split
  · rfl
  · rename_i q
    obtain ⟨h1,_,_⟩:=findC_get (l:=l) (s:=cS v 1) (by omega)
    obtain ⟨a,b,_⟩:=cn1_get hl h1
    generalize atI l (findC l (cS v 1)).toNat 1 = k at *
    have hk:k = 1 ∨ k = 2 ∨ k = 3:=by omega
    unfold fitsK
    rcases hk with rfl | rfl | rfl <;> simp <;> grind
theorem where_eq {l:List DV} {B:Nat} (hl:∀ v ∈ l,cn1 v = true):∀ (n m:Nat) (v:DV),okC B n v = true → dep m v ≠ 0 → whereW l n v = whereQ l n v:=by
  intro n
  induction n with
  | zero => intro m v h; rw [okC_zero] at h; simp at h
  | succ n ih =>
    intro m v h hd
    obtain ⟨k,c,vk,vn,vs,L,p,rfl,h1,h2,h3,h4,h5⟩:=okC_inv h
    cases m with
    | zero => simp [dep] at hd
    | succ m =>
    unfold dep at hd
    have e1:cL (.agg [.int .i64 k,.str c,.int .i64 vk,.int .i64 vn,.str vs,.slc 7 L,.int .i64 p]) 5 = L:=rfl
    have e2:cI (.agg [.int .i64 k,.str c,.int .i64 vk,.int .i64 vn,.str vs,.slc 7 L,.int .i64 p]) 0 = k:=rfl
    rw [e1,e2] at hd
    split at hd
    · rename_i hc
      obtain ⟨hs,hn⟩:=hc
      unfold whereW whereQ
      rw [e1,e2]
      rw [List.all_eq_true] at h5
      unfold nzL at hn
      rw [List.all_eq_true] at hn
      have hf:firstF (whereW l n) L = firstF (whereQ l n) L:=first_congr fun x hx => ih m x (h5 x hx) (by simpa using hn x hx)
      rw [hf]
      by_cases hL:0 < L.length
      · have:k ≤ 3:=by unfold sidesI at hs; grind
        rw [if_pos this,if_pos hL]
        split
        · rfl
        · rename_i q; exact (first_zero (by omega)).symm
      · have:¬ k ≤ 3:=by unfold sidesI at hs; grind
        have hL0:L = []:=List.length_eq_zero_iff.1 (by omega)
        subst hL0
        rw [if_neg this,if_neg (by simp [firstF]),if_neg (by simp)]
        exact leaf_eq hl _
    · simp at hd
def stepQ (n:Nat) (l:List DV) (s:DV):List DV × Int × Int :=
  if cI s 0 = 1 then (if (whereQ l n (condOf s)).2 = 0 then (l,0,0) else ([],whereQ l n (condOf s))) else
  if cI s 0 = 2 then namedG l true (cL s 8) [] else
  if cI s 0 = 3 then (if (namedG l false (cL s 8) []).2.2 = 0 then (l,0,0) else ([],(namedG l false (cL s 8) []).2)) else
  if cI s 0 = 4 then (l,0,0) else gatherG l (cL s 8) (cL s 9) (cI s 0)
def aloneB (n:Nat) (s:DV):Bool:=rightQ n 9 0 0 [] [118] [] 0 false 0 [] 0 false 0 [s]
theorem alone_eq (n:Nat) (s:DV):aloneB n s = stepB n s:=by
  have h:srcB 9 0 0 [] [118] [] 0 false 0 [] 0 false 0 = true:=by rfl
  unfold aloneB rightQ
  rw [h]; simp
def stepTy (n:Nat) (l:List DV) (s:DV):List DV × Int × Int:=if rightC l = false ∨ aloneB n s = false then ([],0,2) else stepCc n l s
def stepR (n:Nat) (l:List DV) (s:DV):List DV × Int × Int:=if rightC l = false ∨ aloneB n s = false then ([],0,2) else stepQ n l s
theorem cond_ok {B n:Nat} {s:DV} (h:okStep B n s = true):okC B n (condOf s) = true:=by
  obtain ⟨sk,k,c,vk,vn,vs,l,p,cols,bys,m,sp,rfl,h1,_⟩:=okStep_inv h
  exact h1
theorem stepR_eq {B n:Nat} {l:List DV} {s:DV} (hs:okStep B n s = true):stepR n l s = stepTy n l s:=by
  unfold stepR stepTy
  split
  · rfl
  · rename_i q
    have q1:rightC l = true:=by cases h:rightC l <;> simp_all
    have q2:stepB n s = true:=by rw [← alone_eq]; cases h:aloneB n s <;> simp_all
    have a1:=named_canon l true (cL s 8)
    have a3:=gather_canon l (cL s 8) (cL s 9) (cI s 0)
    unfold stepQ stepCc stepG
    by_cases k1:cI s 0 = 1
    · simp only [if_pos k1]
      rw [where_eq (rightC_iff.1 q1).2.2.1 n 16 _ (cond_ok hs) ((step_lens q2).2.2.2.2.2 k1)]
      by_cases z:(whereQ l n (condOf s)).2 = 0
      · rw [if_pos z,if_neg (by simpa using z)]
      · rw [if_neg z,if_pos z]
    · simp only [if_neg k1]
      by_cases k2:cI s 0 = 2
      · simp only [if_pos k2]; exact a1
      · simp only [if_neg k2]
        by_cases k3:cI s 0 = 3
        · simp only [if_pos k3]
          by_cases z:(namedG l false (cL s 8) []).2.2 = 0
          · rw [if_pos z,if_neg (by simpa using z)]
          · rw [if_neg z,if_pos z]
        · simp only [if_neg k3]
          by_cases k4:cI s 0 = 4
          · simp only [if_pos k4]; rfl
          · simp only [if_neg k4]; exact a3
def foldQ (n:Nat):List DV → List DV → List DV × Int × Int
  | [],l => (l,0,0)
  | s :: r,l => if (stepR n l s).2.2 ≠ 0 then ([],(stepR n l s).2) else foldQ n r (stepR n l s).1
theorem fold_eq {B n:Nat}:∀ {steps l:List DV},rightC l = true → steps.all (okStep B n) = true → steps.all (stepB n) = true → foldQ n steps l = foldG n steps l:=by
  intro steps
  induction steps with
  | nil => intro l _ _ _; rfl
  | cons s r ih =>
    intro l h hs hb
    simp only [List.all_cons,Bool.and_eq_true] at hs hb
    have e:stepR n l s = stepCc n l s:=by
      rw [stepR_eq hs.1]; unfold stepTy; rw [alone_eq,h,hb.1]; simp
    unfold foldQ foldG
    rw [e]
    by_cases q:(stepG n l s).2.2 = 0
    · have e2:stepCc n l s = ((stepG n l s).1,0,0):=by unfold stepCc; rw [if_neg (by simpa using q)]
      rw [e2,if_neg (by simp),if_neg (by simpa using q)]
      exact ih (step_right h hb.1 q).1 hs.2 hb.2
    · have e2:stepCc n l s = ([],(stepG n l s).2):=by unfold stepCc; rw [if_pos q]
      rw [e2,if_pos q,if_pos q]
def queryG (n:Nat) (rq:Bool) (steps l:List DV):List DV × Int × Int:=if rq = false ∨ rightC l = false then ([],0,2) else foldG n steps l
def queryR (n:Nat) (rq:Bool) (steps l:List DV):List DV × Int × Int:=if rq = false ∨ rightC l = false then ([],0,2) else foldQ n steps l
theorem query_eq {B n:Nat} {rq:Bool} {steps l:List DV} (hs:steps.all (okStep B n) = true) (hb:rq = true → steps.all (stepB n) = true):queryR n rq steps l = queryG n rq steps l:=by
  unfold queryR queryG
  split
  · rfl
  · rename_i q
    have q1:rq = true:=by cases h:rq <;> simp_all
    have q2:rightC l = true:=by cases h:rightC l <;> simp_all
    exact fold_eq q2 hs (hb q1)
end Go.PS
end
