/- A part of the proof of the claim (the pure semantics PS and the contracts of the functions over it). -/
import Derived.Test.YtcjcppnclfbjpaaGreatDoorU0
import Derived.Test.YtcjcppnclfbjpaaGreatDoorU1
import Derived.Test.YtcjcppnclfbjpaaGreatDoorU2
import Derived.Test.YtcjcppnclfbjpaaGreatDoorU3
import Derived.Test.YtcjcppnclfbjpaaGreatDoorU4
import Derived.Test.YtcjcppnclfbjpaaGreatDoorU5
import Derived.Test.YtcjcppnclfbjpaaGreatDoorRows
import Derived.Test.YtcjcppnclfbjpaaGreatDoorTie
import Derived.ProofKit
import Derived.OpenShut
import Derived.LaidMore
import Derived.Lay
import Derived.Lib.LaidU8
import Derived.Lib.LaidTab
import Derived.ChangeMaps
import Derived.ChangeSame
import Derived.ChangeVars
import Derived.JoinedOf
import Derived.RowKit
import Derived.RowKitTokens
import Derived.LaidLaws
import Derived.LaidHandle
import Derived.SizedLaws
import Derived.SliceStrings
import Derived.SevenTiedAt
import Derived.Stop.Joined
import Derived.Stop.LaidErr
set_option linter.all false
section
set_option maxRecDepth 100000
namespace Go.Proofs.YtcjcppnclfbjpaaGreatDoor
open Go.PS Go.Shelf Go.Lib
open Go.ChangeShapes Go.WideShapes Go.ChangeAt Go.RowKit
open Go.ChangeMaps (open_string shut_string)
theorem own:ownKnob Tryz.prog.godebug = none:=by kernel_rfl
noncomputable abbrev laid:List (String × DataW Unit):=Rows.typesRightRow.laid
theorem laid_is : laid = [("math/bits.deBruijn32tab", Rows.laid_math_bits_deBruijn32tab), ("math/bits.deBruijn64tab", Rows.laid_math_bits_deBruijn64tab), ("internal/strconv.uint64pow10", Lib.tabData .u64 Lib.pow10Tab),
  ("unicode/utf8.acceptRanges", Lib.acceptData), ("strconv.ErrRange", Rows.laid_strconv_ErrRange), ("strconv.ErrSyntax", Rows.laid_strconv_ErrSyntax), ("unicode/utf8.first", Lib.firstData)] := by kernel_rfl
theorem star : "*" ++ "errors.errorString" = "*errors.errorString" := by decide
theorem row326 (u : TypeId) (h : Tryz.prog.typeName? 3 u = some "*errors.errorString") : u = 326 :=
  typeName_ptr_named (nm := "errors.errorString") (by rw [star]; kernel_rfl) (by kernel_rfl) (by decide) u (by rw [star]; exact h)
theorem laid_world {W:World} (h:laidMetH Tryz.prog laid W):Laid W:=by
  rw [MakeChecks.laidMetH_plain _ _ _ (by kernel_rfl)] at h
  rw [laid_is] at h
  have h2:=h.tail.tail
  obtain ⟨a1,t1,hv1,hc1,_,_⟩:=laid_sentinel (g:=7) h2.tail.tail (by kernel_rfl) (by kernel_rfl) Tryz.underlying233 row326 Tryz.underlying326 Tryz.underlying328 rfl rfl Tryz.underlying9 (by kernel_rfl) (by kernel_rfl)
  obtain ⟨a0,t0,hv0,hc0,_,_⟩:=laid_sentinel (g:=6) h2.tail.tail.tail (by kernel_rfl) (by kernel_rfl) Tryz.underlying233 row326 Tryz.underlying326 Tryz.underlying328 rfl rfl Tryz.underlying9 (by kernel_rfl) (by kernel_rfl)
  refine ⟨?_,?_,?_,?_⟩
  · exact utf8Tabs_of_reads (ρ:=Tryz.lays260_ren) Tryz.lays260 ⟨by kernel_rfl,by kernel_rfl,by kernel_rfl,by kernel_rfl,by kernel_rfl,by kernel_rfl,by kernel_rfl⟩ (Lib.laidMet.reads h2 (.tail _ (.tail _ (.tail _ (.tail _ (.head _)))))) (Lib.laidMet.reads h2 (.tail _ (.head _)))
  · exact tabIs_of_head (g:=1) (by kernel_rfl) (by kernel_rfl) Tryz.underlying299 Tryz.underlying282 (by kernel_rfl) (by kernel_rfl) h2
  · exact ⟨_,(World.var?_cell (by kernel_rfl) hv0 0).trans rfl,.inr ⟨_,_,rfl⟩⟩
  · exact ⟨_,(World.var?_cell (by kernel_rfl) hv1 0).trans rfl,.inr ⟨_,_,rfl⟩⟩
theorem laid_met (os:Os) (args:Array Value):laidMetH Tryz.prog laid ((World.laidAll Tryz.prog os laid).forCall (fun _ _ => 0) ⟨#[],args,[]⟩).memory:=by
  rw [MakeChecks.laidMetH_plain _ _ _ (by kernel_rfl)]; exact laidMet_laidAll _ (by kernel_rfl) (by kernel_rfl)
def bare:Own:=fun _ => none
theorem gl_bare (W:World):Gl W bare W:=⟨Nat.le_refl _,fun _ _ => ⟨rfl,rfl⟩,fun _ h => absurd rfl h⟩
theorem law_eff {W:World} {f:Nat} {S:List PV → List PObj → Tr (Out × List PObj)} {vs:List PV} {xs:List Value} (h:EKOk Tryz.prog W f (.eff S)) (hx:PEncL bare W [] vs xs) (hS:(S vs []).val = some (.ret (.d (.bool true)),[])) :
    Calls Tryz.prog f xs.toArray W fun e W' => e = .returned (.bool true) ∧ Below W.heap.size W W':=by
  refine (Sound.calls h vs [] _ [] hS bare [] W xs (gl_bare W) ⟨rfl,fun id ob h => by simp at h⟩ hx).mono ?_
  rintro e W' ⟨o',sig',hg,_,hs,_,hm⟩
  cases e with
  | returned x =>
    dsimp only at hm
    exact ⟨by rw [hm.1.bool_inv],hs.os,hs.tape,hs.output,hs.size,fun k hk => (hg.keep k hk).1⟩
  | _ => exact hm.elim
theorem frame_d3 {S:List PV → List PObj → Tr (Out × List PObj)} {a b d c:DV} (h:(S [.d a,.d b,.d d] []).val = some (.ret (.d c),[])):(frameT S [.d a,.d b,.d d] []).val = some (.ret (.d c),[]):=by
  show ((S [.d a,.d b,.d d] []).map fun p => (outOut (gid 0 []) p.1,putH (gid 0 []) [] [] p.2)).val = _
  rw [Tr.val_map,h]; rfl
end Go.Proofs.YtcjcppnclfbjpaaGreatDoor
end

section
set_option maxRecDepth 100000
namespace Go.Proofs.YtcjcppnclfbjpaaGreatDoor
open Go.PS Go.Shelf Go.Lib
open Go.ChangeShapes Go.WideShapes Go.ChangeAt Go.RowKit
open Go.PS.Lt (tyV plainT Leaves leafT ty_flat lightW light_each)
def tyL:List TypeId:=[22,104,9,102,54,44,51,45,48,46,3,49,52,164,4,30,27,23,25,28]
theorem plain_all:∀ t,tyL.contains t = true → plainT Tryz.prog tyL t = true:=by
  intro t ht
  unfold tyL at ht
  simp only [List.contains_cons,List.contains_nil,Bool.or_eq_true,beq_iff_eq,Bool.or_false] at ht
  rcases ht with rfl | rfl | rfl | rfl | rfl | rfl | rfl | rfl | rfl | rfl | rfl | rfl | rfl | rfl | rfl | rfl | rfl | rfl | rfl | rfl <;> kernel_rfl
theorem wf64 {n:Int} (wn:(Lit.int .i64 n).wf = true):okI n = true:=by
  have h:(decide (IntKind.i64.min ≤ n) && decide (n ≤ IntKind.i64.max)) = true:=wn
  have e1:IntKind.i64.min = -9223372036854775808:=by rfl
  have e2:IntKind.i64.max = 9223372036854775807:=by rfl
  rw [e1,e2] at h
  exact h
theorem lf_int {n:Nat} {t:TypeId} {d:DV} (hu:Tryz.prog.underlying t = some (.int .i64)) (h:tyV Tryz.prog n t [d]):∃ m,d = .int .i64 m ∧ okI m = true:=by
  cases n with
  | zero => exact h.elim
  | succ n =>
    unfold tyV at h; rw [hu] at h
    obtain ⟨m,e,w⟩:=h
    exact ⟨m,by simpa using e,wf64 w⟩
theorem lf_str {n:Nat} {t:TypeId} {d:DV} (hu:Tryz.prog.underlying t = some .string) (h:tyV Tryz.prog n t [d]):∃ s,d = .str s ∧ s.length ≤ 200000000000000 ∧ s.length ≤ ML:=by
  cases n with
  | zero => exact h.elim
  | succ n =>
    unfold tyV at h; rw [hu] at h
    obtain ⟨m,e,w⟩:=h
    unfold reachBytes at w
    exact ⟨m,by simpa using e,by omega,by unfold ML; omega⟩
theorem lf_bool {n:Nat} {t:TypeId} {d:DV} (hu:Tryz.prog.underlying t = some .bool) (h:tyV Tryz.prog n t [d]):∃ b,d = .bool b:=by
  cases n with
  | zero => exact h.elim
  | succ n =>
    unfold tyV at h; rw [hu] at h
    obtain ⟨m,e⟩:=h
    exact ⟨m,by simpa using e⟩
theorem lf_slc {n:Nat} {t e:TypeId} {c:Nat} {d:DV} (hu:Tryz.prog.underlying t = some (.slice e)) (hc:Tryz.prog.cellsOf e = c) (hs:Lt.isStruct Tryz.prog e = true) (h:tyV Tryz.prog (n + 1) t [d]) :
    ∃ vs,d = .slc c vs ∧ vs.length ≤ ML ∧ ∀ v ∈ vs,Lt.isAgg v = true ∧ tyV Tryz.prog n e v.cells:=by
  unfold tyV at h; rw [hu] at h
  obtain ⟨vs,e1,hl,hv⟩:=h
  rw [hc] at e1
  exact ⟨vs,by simpa using e1,hl,fun v hm => ⟨by rw [(hv v hm).1,hs],(hv v hm).2⟩⟩
theorem agg_cells {v:DV} (h:Lt.isAgg v = true):v = .agg v.cells:=by
  cases v <;> first | rfl | (simp [Lt.isAgg] at h)
theorem st104:Lt.isStruct Tryz.prog 104 = true:=by kernel_rfl
theorem st164:Lt.isStruct Tryz.prog 164 = true:=by kernel_rfl
theorem st51:Lt.isStruct Tryz.prog 51 = true:=by kernel_rfl
theorem st54:Lt.isStruct Tryz.prog 54 = true:=by kernel_rfl
theorem ce104:Tryz.prog.cellsOf 104 = 2:=by kernel_rfl
theorem ce164:Tryz.prog.cellsOf 164 = 3:=by kernel_rfl
theorem ce51:Tryz.prog.cellsOf 51 = 7:=by kernel_rfl
theorem ce54:Tryz.prog.cellsOf 54 = 12:=by kernel_rfl
theorem lv104:leafT Tryz.prog 5 104 = some [9,102]:=by kernel_rfl
theorem lv164:leafT Tryz.prog 5 164 = some [9,4,3]:=by kernel_rfl
theorem lv51:leafT Tryz.prog 5 51 = some [45,9,46,3,9,49,3]:=by kernel_rfl
theorem lv54:leafT Tryz.prog 5 54 = some [44,45,9,46,3,9,49,3,52,52,3,3]:=by kernel_rfl
theorem lv30:leafT Tryz.prog 5 30 = some [23,3,3,9,9,9,3,4,3,3,9,3,4,3,3,3,28]:=by kernel_rfl
theorem ty_cn {n:Nat} {v:DV} (ha:Lt.isAgg v = true) (h:tyV Tryz.prog n 104 v.cells):okCn ML v = true:=by
  have f:=ty_flat plain_all 5 n 104 _ _ rfl lv104 h
  rw [agg_cells ha]
  generalize v.cells = ds at *
  cases f with | cons a0 f =>
  cases f with | cons a1 f =>
  cases f
  obtain ⟨s,rfl,_,h0⟩:=lf_str Tryz.underlying9 a0
  obtain ⟨k,rfl,_⟩:=lf_int Tryz.underlying102 a1
  simp only [okCn,lenB,h0,decide_true]
theorem ty_col {n:Nat} {v:DV} (ha:Lt.isAgg v = true) (h:tyV Tryz.prog n 164 v.cells):okCol ML v = true:=by
  have f:=ty_flat plain_all 5 n 164 _ _ rfl lv164 h
  rw [agg_cells ha]
  generalize v.cells = ds at *
  cases f with | cons a0 f =>
  cases f with | cons a1 f =>
  cases f with | cons a2 f =>
  cases f
  obtain ⟨s,rfl,_,h0⟩:=lf_str Tryz.underlying9 a0
  obtain ⟨b,rfl⟩:=lf_bool Tryz.underlying4 a1
  obtain ⟨k,rfl,_⟩:=lf_int Tryz.underlying3 a2
  simp only [okCol,lenB,h0,decide_true]
theorem all_of {f:DV → Bool} {l:List DV} (h:∀ v ∈ l,f v = true):l.all f = true:=List.all_eq_true.2 h
theorem ty_cond:∀ (n:Nat) (v:DV),Lt.isAgg v = true → tyV Tryz.prog n 51 v.cells → okC ML n v = true:=by
  intro n
  induction n with
  | zero => intro v _ h; exact h.elim
  | succ n ih =>
    intro v ha h
    have f:=ty_flat plain_all 5 _ 51 _ _ rfl lv51 h
    rw [agg_cells ha]
    generalize v.cells = ds at *
    cases f with | cons a0 f =>
    cases f with | cons a1 f =>
    cases f with | cons a2 f =>
    cases f with | cons a3 f =>
    cases f with | cons a4 f =>
    cases f with | cons a5 f =>
    cases f with | cons a6 f =>
    cases f
    obtain ⟨k,rfl,_⟩:=lf_int Tryz.underlying45 a0
    obtain ⟨c,rfl,_,h1⟩:=lf_str Tryz.underlying9 a1
    obtain ⟨vk,rfl,_⟩:=lf_int Tryz.underlying46 a2
    obtain ⟨vn,rfl,h3⟩:=lf_int Tryz.underlying3 a3
    obtain ⟨vs,rfl,_,h4⟩:=lf_str Tryz.underlying9 a4
    obtain ⟨L,rfl,h5,h6⟩:=lf_slc Tryz.underlying49 ce51 st51 a5
    obtain ⟨p,rfl,_⟩:=lf_int Tryz.underlying3 a6
    exact okC_mk8 h1 h4 h3 h5 (all_of fun x hx => ih x (h6 x hx).1 (h6 x hx).2)
theorem ty_step {n:Nat} {v:DV} (ha:Lt.isAgg v = true) (h:tyV Tryz.prog (n + 1) 54 v.cells):okStep ML (n + 1) v = true:=by
  have f:=ty_flat plain_all 5 _ 54 _ _ rfl lv54 h
  rw [agg_cells ha]
  generalize v.cells = ds at *
  cases f with | cons b0 f =>
  cases f with | cons a0 f =>
  cases f with | cons a1 f =>
  cases f with | cons a2 f =>
  cases f with | cons a3 f =>
  cases f with | cons a4 f =>
  cases f with | cons a5 f =>
  cases f with | cons a6 f =>
  cases f with | cons b1 f =>
  cases f with | cons b2 f =>
  cases f with | cons b3 f =>
  cases f with | cons b4 f =>
  cases f
  obtain ⟨sk,rfl,_⟩:=lf_int Tryz.underlying44 b0
  obtain ⟨k,rfl,_⟩:=lf_int Tryz.underlying45 a0
  obtain ⟨c,rfl,_,h1⟩:=lf_str Tryz.underlying9 a1
  obtain ⟨vk,rfl,_⟩:=lf_int Tryz.underlying46 a2
  obtain ⟨vn,rfl,h3⟩:=lf_int Tryz.underlying3 a3
  obtain ⟨vs,rfl,_,h4⟩:=lf_str Tryz.underlying9 a4
  obtain ⟨L,rfl,h5,h6⟩:=lf_slc Tryz.underlying49 ce51 st51 a5
  obtain ⟨p,rfl,_⟩:=lf_int Tryz.underlying3 a6
  obtain ⟨cols,rfl,h7,h8⟩:=lf_slc Tryz.underlying52 ce164 st164 b1
  obtain ⟨bys,rfl,h9,h10⟩:=lf_slc Tryz.underlying52 ce164 st164 b2
  obtain ⟨m,rfl,h11⟩:=lf_int Tryz.underlying3 b3
  obtain ⟨sp,rfl,_⟩:=lf_int Tryz.underlying3 b4
  exact okStep_mk8 (okC_mk8 h1 h4 h3 h5 (all_of fun x hx => ty_cond n x (h6 x hx).1 (h6 x hx).2)) (all_of fun x hx => ty_col (h8 x hx).1 (h8 x hx).2) (all_of fun x hx => ty_col (h10 x hx).1 (h10 x hx).2) h11 h7 h9
theorem ty_step_pos {n:Nat} {ds:List DV} (h:tyV Tryz.prog n 54 ds):∃ m,n = m + 1:=by
  cases n with
  | zero => exact h.elim
  | succ m => exact ⟨m,rfl⟩
section
variable {H:Type} {enc:TypeId × Value → H} {W:World} {base:Nat} {held:Bool}
theorem single {u:DV} (h:Lt.isAgg u = false):u.cells = [u]:=by
  cases u <;> first | rfl | (simp [Lt.isAgg] at h)
theorem open_cns {r:Reach} {b0:Nat} {v:Value} {d:DataW H} {ps:List MemPlace} (hval:Value.okWide Tryz.prog W r b0 22 v) (hd:DataW.Trod enc Tryz.prog W base (fun _ => true) held 22 v d ps) (hl:lightW Tryz.prog 22 d) :
    ∃ l:List DV,PEnc bare W [] (.d (.slc 2 l)) v ∧ l.all (okCn ML) = true:=by
  obtain ⟨n,u,h1,h2,h3⟩:=Lt.open_arg plain_all rfl hval hd hl
  have h2:Lt.isAgg u = false:=by rw [h2]; kernel_rfl
  rw [single h2] at h3
  cases n with
  | zero => exact h3.elim
  | succ n =>
    obtain ⟨l,rfl,_,h4⟩:=lf_slc Tryz.underlying22 ce104 st104 h3
    exact ⟨l,h1,all_of fun x hx => ty_cn (h4 x hx).1 (h4 x hx).2⟩
theorem open_query {r:Reach} {b0:Nat} {v:Value} {d:DataW H} {ps:List MemPlace} (hval:Value.okWide Tryz.prog W r b0 30 v) (hd:DataW.Trod enc Tryz.prog W base (fun _ => true) held 30 v d ps) (hl:lightW Tryz.prog 30 d) :
    ∃ (kk:Nat) (k f t:Int) (path name b:Str) (c:Int) (a:Bool) (ti p1:Int) (b2:Str) (cm2:Int) (a2:Bool) (ti2 p2 p3:Int) (steps:List DV),
      PEnc bare W [] (.d (.agg [.int .i64 k,.int .i64 f,.int .i64 t,.str path,.str name,.str b,.int .i64 c,.bool a,.int .i64 ti,.int .i64 p1,.str b2,.int .i64 cm2,.bool a2,.int .i64 ti2,.int .i64 p2,.int .i64 p3,.slc 12 steps])) v ∧
      steps.all (okStep ML kk) = true ∧ path.length ≤ 200000000000000 ∧ name.length ≤ 200000000000000 ∧ b.length ≤ 200000000000000 ∧ b2.length ≤ 200000000000000:=by
  obtain ⟨n,u,h1,h2,h3⟩:=Lt.open_arg plain_all rfl hval hd hl
  have h2:Lt.isAgg u = true:=by rw [h2]; kernel_rfl
  have hp:∃ m,n = m + 1:=by
    cases n with
    | zero => exact h3.elim
    | succ m => exact ⟨m,rfl⟩
  obtain ⟨m,rfl⟩:=hp
  have f:=ty_flat plain_all 5 _ 30 _ _ rfl lv30 h3
  rw [agg_cells h2] at h1
  generalize u.cells = ds at *
  cases f with | cons a0 f =>
  cases f with | cons a1 f =>
  cases f with | cons a2 f =>
  cases f with | cons a3 f =>
  cases f with | cons a4 f =>
  cases f with | cons a5 f =>
  cases f with | cons a6 f =>
  cases f with | cons a7 f =>
  cases f with | cons a8 f =>
  cases f with | cons a9 f =>
  cases f with | cons a10 f =>
  cases f with | cons a11 f =>
  cases f with | cons a12 f =>
  cases f with | cons a13 f =>
  cases f with | cons a14 f =>
  cases f with | cons a15 f =>
  cases f with | cons a16 f =>
  cases f
  obtain ⟨k,rfl,_⟩:=lf_int Tryz.underlying23 a0
  obtain ⟨fr,rfl,_⟩:=lf_int Tryz.underlying3 a1
  obtain ⟨t,rfl,_⟩:=lf_int Tryz.underlying3 a2
  obtain ⟨path,rfl,l1,_⟩:=lf_str Tryz.underlying9 a3
  obtain ⟨name,rfl,l2,_⟩:=lf_str Tryz.underlying9 a4
  obtain ⟨b,rfl,l3,_⟩:=lf_str Tryz.underlying9 a5
  obtain ⟨c,rfl,_⟩:=lf_int Tryz.underlying3 a6
  obtain ⟨a,rfl⟩:=lf_bool Tryz.underlying4 a7
  obtain ⟨ti,rfl,_⟩:=lf_int Tryz.underlying3 a8
  obtain ⟨p1,rfl,_⟩:=lf_int Tryz.underlying3 a9
  obtain ⟨b2,rfl,l4,_⟩:=lf_str Tryz.underlying9 a10
  obtain ⟨cm2,rfl,_⟩:=lf_int Tryz.underlying3 a11
  obtain ⟨a2,rfl⟩:=lf_bool Tryz.underlying4 a12
  obtain ⟨ti2,rfl,_⟩:=lf_int Tryz.underlying3 a13
  obtain ⟨p2,rfl,_⟩:=lf_int Tryz.underlying3 a14
  obtain ⟨p3,rfl,_⟩:=lf_int Tryz.underlying3 a15
  obtain ⟨steps,rfl,_,h6⟩:=lf_slc Tryz.underlying28 ce54 st54 a16
  refine ⟨m,k,fr,t,path,name,b,c,a,ti,p1,b2,cm2,a2,ti2,p2,p3,steps,h1,?_,l1,l2,l3,l4⟩
  refine all_of fun x hx => ?_
  obtain ⟨m',rfl⟩:=ty_step_pos (h6 x hx).2
  exact ty_step (h6 x hx).1 (h6 x hx).2
theorem light_of {ts:List TypeId} {ds:List (DataW H)} (h:(DataW.weightsEach Tryz.prog ts ds).all (· ≤ reachBytes) = true):∀ (i:Nat) t d,ts[i]? = some t → ds[i]? = some d → lightW Tryz.prog t d :=
  light_each fun n hn => by simpa using List.all_eq_true.1 h n hn
theorem enc_str {s:ByteArray} (hs:s.size ≤ maxLen):PEnc bare W [] (.d (.str s.data.toList)) (.string s):=by
  have h1:PEnc bare W [] (.d (.str s.data.toList)) (.string ⟨s.data.toList.toArray⟩):=.d (.str _ (by
    rw [← Lib.size_eq]; unfold maxLen at hs; omega))
  have e:(⟨s.data.toList.toArray⟩:ByteArray) = s:=by cases s; simp
  rwa [e] at h1
end
end Go.Proofs.YtcjcppnclfbjpaaGreatDoor
end

section
set_option maxRecDepth 100000
namespace Go.Proofs.YtcjcppnclfbjpaaGreatDoor
open Go
theorem band3 {a b:Bool} (ha:a = true) (hb:b = true):(a && b) = true:=by rw [ha,hb]; rfl
theorem j3_0:(Rows.typesTellsRow.wf (OpenSpec.ofChange Rows.typesTellsSpec)) = true:=by kernel_rfl
theorem j3_1:(laidOutB Tryz.prog) = true:=by kernel_rfl
theorem j3_2:(mapsRowed Tryz.prog) = true:=by kernel_rfl
theorem j3_3:(Tryz.f3.params.all (Tryz.prog.readableRec ·)) = true:=by kernel_rfl
theorem j3_4:(namedTie Tryz.prog Rows.typesTellsRow.named Rows.typesTellsSpec.vars) = true:=by kernel_rfl
theorem j3_5:((Rows.typesTellsRow.stops == [])) = true:=by kernel_rfl
theorem j3_6:((Tryz.prog.stops == [])) = true:=by kernel_rfl
theorem j3_7:((Rows.typesTellsRow.knobs == [])) = true:=by kernel_rfl
theorem j3_8:((Tryz.prog.stopKnobs == [])) = true:=by kernel_rfl
theorem j3_9:((Rows.typesTellsRow.inPlace == Tryz.prog.inPlace 3)) = true:=by kernel_rfl
theorem j3_10:((Rows.typesTellsRow.unfollowed == Tryz.prog.unfollowed 3)) = true:=by kernel_rfl
theorem j3_11:((Rows.typesTellsRow.recurses == Tryz.prog.recurses 3)) = true:=by kernel_rfl
theorem j3_12:((Rows.typesTellsRow.named == Tryz.prog.varsNamed 3)) = true:=by kernel_rfl
theorem j3_13:((Rows.typesTellsRow.maps == (Tryz.f3.params.toList ++ Rows.typesTellsSpec.plain.varTypes Tryz.prog).any (Tryz.prog.mapsRec ·))) = true:=by kernel_rfl
theorem j3_14:((Rows.typesTellsRow.ifaces == (Tryz.f3.params.toList ++ Rows.typesTellsSpec.plain.varTypes Tryz.prog).any (Tryz.prog.ifacesRec ·))) = true:=by kernel_rfl
theorem j3_15:((Rows.typesTellsRow.mapsOut == Tryz.prog.mapsAmong Tryz.f3.resultTypes.toList)) = true:=by kernel_rfl
theorem j3_16:((Rows.typesTellsRow.loops == (Tryz.f3.params.toList ++ Rows.typesTellsSpec.plain.varTypes Tryz.prog).any (Tryz.prog.loopsFrom ·))) = true:=by kernel_rfl
theorem j3_17:((Rows.typesTellsRow.wideKeys == (Tryz.f3.params.toList ++ Rows.typesTellsSpec.plain.varTypes Tryz.prog ++ Tryz.f3.resultTypes.toList).any (Tryz.prog.wideKeysFrom ·))) = true:=by kernel_rfl
theorem j3_18:(Rows.typesTellsSpec.vars.all (Tryz.prog.varReadable ·)) = true:=by kernel_rfl
theorem j3_19:(Tryz.f3.resultTypes.all (fun t => Tryz.prog.readableRec t && decide (t < Tryz.prog.types.size))) = true:=by kernel_rfl
theorem j3_20:((Rows.typesTellsRow.ifacesOut == Tryz.f3.resultTypes.toList.any (Tryz.prog.ifacesRec ·))) = true:=by kernel_rfl
theorem j3_21:((Rows.typesTellsRow.loopsOut == Tryz.f3.resultTypes.toList.any (Tryz.prog.loopsFrom ·))) = true:=by kernel_rfl
theorem j3_22:((Rows.typesTellsRow.plainKeys == Tryz.prog.plainKeys)) = true:=by kernel_rfl
theorem j3_23:(Rows.typesTellsRow.shortTexts.isNone) = true:=by kernel_rfl
theorem j3_24:(Tryz.prog.stopsHeard) = true:=by kernel_rfl
theorem j3_25:(Tryz.prog.mayEnter) = true:=by kernel_rfl
theorem j3_26:((Rows.typesTellsRow.lifted == Tryz.prog.liftsFinal)) = true:=by kernel_rfl
theorem j3_27:((Tryz.prog.make == some Rows.typesTellsRow.make)) = true:=by kernel_rfl
theorem j3_28:((Rows.typesTellsRow.kinds == (if Rows.typesTellsRow.domain.isEmpty then [] else Tryz.f3.params.toList.map fun t => match Tryz.prog.underlying t with | some (.int k) => some k | _ => none))) = true:=by kernel_rfl
theorem j3_29:((Rows.typesTellsRow.pinned == Rows.typesTellsRow.pinnedBy)) = true:=by kernel_rfl
theorem j3_30:((Rows.typesTellsRow.veiled == (Tryz.f3.params.toList ++ Rows.typesTellsSpec.plain.varTypes Tryz.prog ++ Tryz.f3.resultTypes.toList).any (Tryz.prog.veiledRec ·))) = true:=by kernel_rfl
theorem j3_31:(Rows.typesTellsRow.veiledFits Tryz.prog Tryz.f3.params.toList (Tryz.f3.params.toList ++ Rows.typesTellsSpec.plain.varTypes Tryz.prog ++ Tryz.f3.resultTypes.toList)) = true:=by kernel_rfl
theorem joined3:joinedFacts Tryz.prog 3 Tryz.f3 Rows.typesTellsSpec Rows.typesTellsRow = true:=(band3 (band3 (band3 (band3 (band3 (band3 (band3 (band3 (band3 (band3 (band3 (band3 (band3 (band3 (band3 (band3 (band3 (band3 (band3 (band3 (band3 (band3 (band3 (band3 (band3 (band3 (band3 (band3 (band3 (band3 (band3 j3_0 j3_1) j3_2) j3_3) j3_4) j3_5) j3_6) j3_7) j3_8) j3_9) j3_10) j3_11) j3_12) j3_13) j3_14) j3_15) j3_16) j3_17) j3_18) j3_19) j3_20) j3_21) j3_22) j3_23) j3_24) j3_25) j3_26) j3_27) j3_28) j3_29) j3_30) j3_31)
end Go.Proofs.YtcjcppnclfbjpaaGreatDoor
end

section
set_option maxRecDepth 100000
namespace Go.Proofs.YtcjcppnclfbjpaaGreatDoor
open Go.PS Go.Shelf Go.Lib
open Go.ChangeShapes Go.WideShapes Go.ChangeAt Go.RowKit
open Go.ChangeMaps (open_string shut_string)
theorem s3_true {kk:Nat} {l:List DV} {k f t:Int} {path name b:Str} {c:Int} {a:Bool} {ti p1:Int} {b2:Str} {cm2:Int} {a2:Bool} {ti2 p2 p3:Int} {steps:List DV} {s:Str} (h0:l.all (okCn ML) = true) (h1:steps.all (okStep ML kk) = true) (h2:path.length ≤ 200000000000000) (h3:name.length ≤ 200000000000000) (h4:b.length ≤ 200000000000000) (h5:b2.length ≤ 200000000000000) :
    (S3 kk [.d (.slc 2 l),.d (.agg [.int .i64 k,.int .i64 f,.int .i64 t,.str path,.str name,.str b,.int .i64 c,.bool a,.int .i64 ti,.int .i64 p1,.str b2,.int .i64 cm2,.bool a2,.int .i64 ti2,.int .i64 p2,.int .i64 p3,.slc 12 steps]),.d (.str s)] []).val = some (.ret (.d (.bool true)),[]):=by
  unfold S3
  simp only [Tr.val_chk,Tr.val_ok]
  rw [chk_t (by simp only [h0,h1,h2,h3,h4,h5,decide_true,Bool.and_self])]
theorem typesTells_lifted (os:Os) (started:os.Started) (H:Type) (enc:TypeId × Value → H) :
    ReturnsInHanded {} Tryz.checked os 3 .any (fun w args => (Rows.typesTellsSpec.pre enc Tryz.prog Tryz.f3 Rows.typesTellsRow.domain false w args ∧ laidMetH Tryz.prog Rows.typesTellsRow.laid w) ∧ sizedMet enc Tryz.prog Tryz.f3 (OpenSpec.ofChange Rows.typesTellsSpec) false w args)
      (Rows.typesTellsSpec.post enc Tryz.prog Tryz.f3 false true false false):=by
  refine returnsInHanded_of_change_and (C:=Tryz.checked) (X:=fun w _ => laidMetH Tryz.prog Rows.typesTellsRow.laid w) (fun _ _ _ hh h => h.of_heap hh) own started (by kernel_rfl) Tryz.func3
    (ChangeSpec.witness_at (enc:=enc) (C:=Tryz.checked) (os:=os) (X:=fun w _ => laidMetH Tryz.prog Rows.typesTellsRow.laid w) false (World.laidAll Tryz.prog os laid) #[.slice none 0 0,.agg #[.int .i64 0,.int .i64 0,.int .i64 0,.string ⟨#[]⟩,.string ⟨#[]⟩,.string ⟨#[]⟩,.int .i64 0,.bool false,.int .i64 0,.int .i64 0,.string ⟨#[]⟩,.int .i64 0,.bool false,.int .i64 0,.int .i64 0,.int .i64 0,.slice none 0 0],.string ⟨#[]⟩] 8 (World.laidAll_os _ _ _) (by kernel_rfl) (by kernel_rfl) (by kernel_rfl) (by kernel_rfl) (by kernel_rfl) (laid_met os _)) ?_
  intro W base args ds gs before hval0 hW _ hwt hL _
  have hval:∀ (j:Nat) t v,Tryz.f3.params[j]? = some t → args[j]? = some v → Value.okWide Tryz.prog W .any base t v:=hval0
  have hW':=hW
  obtain ⟨p,q,hA0,hV0,rfl,_,_⟩:=hW
  have hA:DataW.TrodAll enc Tryz.prog W 0 (fun _ => true) true Tryz.f3.params.toList args.toList ds p:=hA0
  rw [Tryz.params3] at hA hval hwt
  obtain ⟨v0,v1,v2,d0,d1,d2,mp0,mp1,mp2,rfl,rfl,rfl,h0,h1,h2⟩:=trodAll_three hA
  obtain ⟨rfl,rfl⟩:=trodVars_none hV0
  obtain ⟨l,e0,l0⟩:=open_cns (hval 0 22 _ rfl rfl) h0 (light_of hwt 0 22 _ rfl rfl)
  obtain ⟨kk,k,f,t,path,name,b,c,a,ti,p1,b2,cm2,a2,ti2,p2,p3,steps,e1,s0,s1,s2,s3,s4⟩:=open_query (hval 1 30 _ rfl rfl) h1 (light_of hwt 1 30 _ rfl rfl)
  obtain ⟨z,rfl,rfl,rfl,wz⟩:=open_string Tryz.underlying9 (hval 2 9 _ rfl rfl) h2
  have hlt0:∀ x ∈ mp0,x.block < W.heap.size:=fun x hx => hW'.lt x (by simp [hx])
  have hlt1:∀ x ∈ mp1,x.block < W.heap.size:=fun x hx => hW'.lt x (by simp [hx])
  have eR:∀ d0 d1 d2:DataW H,Rows.typesTellsSpec.fn H ([d0,d1,d2] ++ []) = { results:=[.lit (.bool true)],args:=[d0,d1,d2] }:=fun _ _ _ => rfl
  refine (law_eff (ok3 W (laid_world hL) kk) (.cons e0 (.cons e1 (.cons (enc_str wz) .nil))) (frame_d3 (s3_true l0 s0 s1 s2 s3 s4))).mono ?_
  rintro e W' ⟨rfl,bel⟩
  refine ⟨_,rfl,_,_,_,[],mp0 ++ (mp1 ++ []),[],hW',?_,?_,?_,bel.frame _,fun h => by cases h⟩
  · rw [eR]; exact trodAll_mk1 (shut_bool Tryz.underlying4 true)
  · rw [eR]; exact trodAll_mk3 (Below.trod j3_1 (by kernel_rfl) (of_decide_eq_true (by kernel_rfl)) h0 bel hlt0) (Below.trod j3_1 (by kernel_rfl) (of_decide_eq_true (by kernel_rfl)) h1 bel hlt1) (shut_string Tryz.underlying9 wz)
  · rw [eR]; rfl
theorem typesTells_holds:Rows.TypesTellsSaid :=
  OpenClaim.holds_of_wide 3 Tryz.f3 rfl rfl rfl rfl rfl rfl rfl ⟨rfl,rfl,rfl,rfl,rfl⟩ rfl rfl rfl rfl rfl (by kernel_rfl) Tryz.func3 joined3
    (of_decide_eq_true (by kernel_rfl)) (by unfold Func.isWrapper; rw [if_neg (of_decide_eq_false (by kernel_rfl))]; exact ⟨rfl,rfl⟩)
    (fun os started H enc _ => typesTells_lifted os started H enc)
end Go.Proofs.YtcjcppnclfbjpaaGreatDoor
end
