import Derived.Test.YtnmjdjldbloefaaGreatDoorJU6
import Derived.Test.YtnmjdjldbloefaaGreatDoorJG7
import Derived.Test.YtnmjdjldbloefaaGreatDoorShelf
import Derived.Lib.ItoaMem
import Derived.Test.YtnmjdjldbloefaaGreatDoorJE3
import Derived.ProofKit
import Derived.OpenShut
import Derived.Test.YtnmjdjldbloefaaGreatDoorCards
import Derived.Test.YtnmjdjldbloefaaGreatDoorTie
import Derived.ShutString
import Derived.ChangeOld
import Derived.Below
import Derived.Lib.SmallJoins
import Derived.Deep.DeepHandedRow
import Derived.Lib.LaidTab
/- strconv.Itoa by the kit's contract, lex.Quote walked: TreeBack without premises. -/
namespace Go.Proofs.YtnmjdjldbloefaaGreatDoor
open Go Go.RowKit
set_option linter.unusedSimpArgs false
set_option linter.unusedVariables false
theorem itoa_ok:ItoaOk:=fun v hv H=>by
 have h:VCall Tryz.prog 51 [iV v] H (fun x K=>x=strV (Lib.itoa v)∧K=H) :=
  VCall.ofBelow (vals:= [.int .i64 v]) (y:= .string ⟨(Lib.itoa v).toArray⟩) fun w ht=>(Tryz.strconv_Itoa v (by omega) (by omega) w ht).mono fun e w' ⟨he,k,os,hw⟩=>⟨he,by
   rw [hw]
   refine ⟨rfl,rfl,rfl,?_,fun j hj=> ?_⟩
   ·show w.heap.size≤(w.heap++os).size
    simp
   ·show (w.heap++os)[j]? = w.heap[j]?
    rw [Array.getElem?_append_left hj]⟩
 rw [Lib.itoa_nonneg] at h
 exact h
theorem quote_ok:QuoteOk:=fun x hx H=>quote_call x hx H
theorem treeBack_fin (t:List UInt8):VCall Tryz.prog 5 [roB t] ⟨[],0⟩ (fun v _=>v= .sc (.bool true)):=treeBack_walk itoa_ok quote_ok t
end Go.Proofs.YtnmjdjldbloefaaGreatDoor
namespace Go.Proofs.YtnmjdjldbloefaaGreatDoor
open Go Go.ChangeShapes Go.WideShapes Go.RowKit
set_option linter.unusedSimpArgs false
set_option linter.unusedVariables false
def Old (w:World):Nat→Prop:=fun k=>k < w.heap.size
def noName:Nat→Option (Nat×Nat):=fun _=>none
theorem open_roB {P:Program} {H:Type} {enc:TypeId×Value→H} {W:World} {base:Nat} {t e:TypeId} {v:Value} {d:DataW H} {p:List MemPlace} (ut:P.underlying t=some (.slice e)) (ue:P.underlying e=some (.int .u8)) (hc:P.cellsOf e=1)
  (hval:Value.okWide P W .any base t v) (h:DataW.Trod enc P W 0 (fun _=>true) true t v d p): ∃ l:List UInt8,l.length≤maxLen∧VRel W (Old W) noName (roB l) v:=by
 obtain ⟨a1,len,cap,rfl⟩:=okWide_slice ut hval
 obtain ⟨fuel,hf⟩:=h
 rcases open_ints ut ue hc hf with ⟨hcs,hx⟩|⟨a,len',cap',zs,hcs,_,hl,hm,hz,hx,hcell,hwz⟩
 ·simp [Value.cells] at hcs
  obtain ⟨rfl,rfl,rfl⟩:=hcs
  exact ⟨[],Nat.zero_le _,.ro0⟩
 ·simp [Value.cells] at hcs
  obtain ⟨rfl,rfl,rfl⟩:=hcs
  simp only [if_true] at hz
  refine ⟨(zs.take len).map fun n=>UInt8.ofNat n.toNat,by simp;omega,?_⟩
  have hlen:((zs.take len).map fun n=>UInt8.ofNat n.toNat).length=len:=by simp;omega
  unfold roB
  rw [hlen]
  by_cases h0:len=0
  ·subst h0
   exact .ro0
  ·obtain ⟨ab,ao,spot⟩:=a
   have hspot:spot=none:=by simpa [Addr.add] using World.cell?_spot (hcell 0 (by omega))
   subst hspot
   have hZ:Old W ab:=by
    have:=hcell 0 (by omega)
    unfold Old
    simp only [Addr.add,World.cell?] at this
    cases hh:W.heap[ab]? with
    | none=>simp [hh] at this
    | some o=>exact (Array.getElem?_eq_some_iff.1 hh).1
   refine .ro (cs:=(zs.take len).map (Value.int .u8)) hZ hl (by simp) (fun i hi=> ?_) (fun i u c hu hc=> ?_)
   ·simp only [List.length_map,List.length_take] at hi
    have:=hcell i (by omega)
    rw [Addr.add_lit] at this
    rw [this,List.getElem?_map,List.getElem?_take_of_lt (by omega),List.getD_eq_getElem?_getD,List.getElem?_eq_getElem (show i < zs.length by omega)]
    rfl
   ·have hi:i < len:=by
     have:=(List.getElem?_eq_some_iff.1 hc).1
     simp at this
     omega
    rw [List.getElem?_map,List.getElem?_map,List.getElem?_take_of_lt hi,List.getElem?_eq_getElem (show i < zs.length by omega)] at hu
    rw [List.getElem?_map,List.getElem?_take_of_lt hi,List.getElem?_eq_getElem (show i < zs.length by omega)] at hc
    simp only [Option.map_some,Option.some.injEq] at hu hc
    subst hu hc
    have hb:=range_u8 hwz i
    rw [List.getElem?_eq_getElem (show i < zs.length by omega)] at hb
    simp only [Option.getD_some] at hb
    have:((UInt8.ofNat (zs[i]'(by omega)).toNat).toNat:Int)=zs[i]'(by omega):=by
     simp only [UInt8.toNat_ofNat']
     omega
    unfold bV
    rw [this]
    exact .sc rfl
end Go.Proofs.YtnmjdjldbloefaaGreatDoor
namespace Go.Proofs.YtnmjdjldbloefaaGreatDoor.lawTreeBack
open Go.ChangeShapes Go.WideShapes Go.ChangeAt Go.RowKit Go.Joins
open Go.ChangeMaps (open_string shut_string)
set_option linter.unusedSimpArgs false
set_option linter.unusedVariables false
theorem own:ownKnob Tryz.prog.godebug=none:=by kernel_rfl
theorem laidOut:laidOutB Tryz.prog=true:=by kernel_rfl
theorem u8cells:Tryz.prog.cellsOf 5=1:=by kernel_rfl
theorem gTab : Tryz.prog.globalNamed "internal/strconv.uint64pow10" = some 1 := by kernel_rfl
theorem gTabType:(Tryz.prog.globals[1]?).map (·.type)=some 162:=by kernel_rfl
theorem cellsPow:Tryz.prog.cellsOf 162=20:=by kernel_rfl
theorem cellsU:Tryz.prog.cellsOf 152=1:=by kernel_rfl
theorem laidMet_tail {P:Program} {W:World} {x:String×DataW Unit} {rest:List (String×DataW Unit)} (h:laidMet P (x::rest) W):laidMet P rest W:=by
 obtain ⟨ps,⟨g',t',cs,fuel,p,q,hg',ht',hvar,hd,hr,rfl⟩,hn,hf⟩:=h
 exact ⟨q,hr,(List.nodup_append.1 hn).2.1,fun b off hm=>hf b off (List.mem_append_right _ hm)⟩
theorem table {W:World} (h:laidMetH Tryz.prog Rows.treeBackRow.laid W):Tabs W :=
 Lib.tabIs_of_head (rest:= []) gTab gTabType Tryz.underlying162 Tryz.underlying152 cellsU cellsPow (laidMet_tail (laidMet_tail ((show laidMet Tryz.prog Rows.treeBackRow.laid W from h))))
theorem glob {W:World} (h:Tabs W):Glob W (fun _=>False):=fun w' a b c d e=>Lib.tabBelow_of_tabIs h w' ⟨a,b,c,d,fun k hk=>e k hk id⟩
set_option maxRecDepth 100000 in
theorem contract (H:Type) (enc:TypeId×Value→H) (W:World) (base:Nat) (args:Array Value) (ds gs:List (DataW H)) (before:List MemPlace)
  (hval: ∀ (j:Nat) t v,Tryz.f5.params[j]? = some t→args[j]? = some v→Value.okWide Tryz.prog W .any base t v)
  (hW:DataW.Whole enc Tryz.prog Tryz.f5.params.toList Rows.treeBackSpec.vars false W args.toList ds gs before) (hL:laidMetH Tryz.prog Rows.treeBackRow.laid W) :
  Calls Tryz.prog 5 args W fun e W'=> ∃ v,e= .returned v∧Rows.treeBackSpec.post enc Tryz.prog Tryz.f5 false true false false W args v W':=by
 have hW':=hW
 obtain ⟨p,q,hA0,hV,rfl,hfz,hnd⟩:=hW
 have hA:DataW.TrodAll enc Tryz.prog W 0 (fun _=>true) true Tryz.f5.params.toList args.toList ds p:=hA0
 rw [Tryz.params5] at hA hval
 obtain ⟨v0,vs0,d0,ds0,p0,q0,hargs,rfl,rfl,h0,r0⟩:=trodAll_cons hA
 obtain ⟨rfl,rfl,rfl⟩:=trodAll_nil r0
 obtain rfl:args= #[v0]:=by cases args;simp_all
 obtain ⟨rfl,rfl⟩:=trodVars_none hV
 have k0:=h0
 have lt0: ∀ x∈p0,x.block < W.heap.size:=by obtain ⟨m,hm⟩:=k0;exact DataW.trod_lt m _ _ _ hm
 have hwalk:Calls Tryz.prog 5 #[v0] W fun e w'=>e= .returned (.bool true)∧Below W.heap.size W w':=by
  obtain ⟨l0,hl00,hr0⟩:=open_roB Tryz.underlying22 Tryz.underlying5 u8cells (hval 0 22 v0 rfl rfl) h0
  have hl0:l0.length≤9223372036854775807:=by unfold maxLen at hl00;exact hl00
  exact VCall.law (treeBack_fin l0) W #[v0] (Pw.cons hr0 Pw.nil) (glob (table hL))
 clear hA0
 refine hwalk.mono fun e W' ⟨he,bel⟩=> ?_
 subst he
 exact ⟨_,rfl,_,_,_,[],_,[],hW',trodAll_mk1 (shut_bool Tryz.underlying4 _),(trodAll_cons_mk (Below.trod laidOut (by kernel_rfl) (of_decide_eq_true (by kernel_rfl)) k0 bel lt0) trodAll_mk0),rfl,bel.frame _,fun h=>by cases h⟩
def cellsOfData:DataW Unit→Array Value
 | .agg l=>(l.flatMap fun x=>match x with
  | .lit (.int k n)=> [Value.int k n]
  | .agg m=>m.map fun y=>match y with
   | .lit (.int k n)=>Value.int k n
   | _=>undef
  | _=> [undef]).toArray
 | _=> #[]
def setRow (d:DataW Unit):Obj→Obj
 | .cells _ t frozen=> .cells (cellsOfData d) t frozen
 | o=>o
noncomputable def laidWorld (os:Os):World :=
 {World.holding Tryz.prog os ⟨#[],#[],[]⟩ with heap:=((((World.holding Tryz.prog os ⟨#[],#[],[]⟩).heap.modify 2 (setRow Rows.laid_math_bits_deBruijn32tab)).modify 3 (setRow Rows.laid_math_bits_deBruijn64tab)).modify 1 (setRow Rows.laid_internal_strconv_uint64pow10))}
theorem laid_met (os:Os):laidMet Tryz.prog Rows.treeBackRow.laid ((laidWorld os).forCall (fun _ _=>0) ⟨#[],#[.slice none 0 0],[]⟩).memory :=
 laidMet_of_run' 8 (by kernel_rfl) (by kernel_rfl)
theorem reads (os:Os) {H:Type} (enc:TypeId×Value→H): ∃ places,DataW.whole enc Tryz.prog ((laidWorld os).forCall (fun _ _=>0) ⟨#[],#[.slice none 0 0],[]⟩).memory Tryz.f5.params.toList Rows.treeBackSpec.vars false (#[.slice none 0 0]:Array Value).toList 8=some ([.nil],[],places) :=
 ⟨[],by kernel_rfl⟩
set_option maxRecDepth 100000 in
theorem lifted (os:Os) (started:os.Started) (H:Type) (enc:TypeId×Value→H) (F:Stop.Interp) :
  ReturnsInHanded {} Tryz.checked os 5 .any ((OpenSpec.ofChange Rows.treeBackSpec).preRow enc Tryz.prog Tryz.f5 Rows.treeBackRow.domain false Rows.treeBackRow.laid) (((OpenSpec.ofChange Rows.treeBackSpec).at F).post enc Tryz.prog Tryz.f5 false true false false):=by
 obtain ⟨places,hx⟩:=reads os enc
 refine returnsInHanded_of_row (C:=Tryz.checked) (s:=OpenSpec.ofChange Rows.treeBackSpec) own started (by kernel_rfl) Tryz.func5
  (witness_row_at (enc:=enc) (C:=Tryz.checked) false (laidWorld os) #[.slice none 0 0] rfl (by kernel_rfl) (by kernel_rfl) (by kernel_rfl)
   (OpenSpec.preRow_of_cond 8 hx (by kernel_rfl) (fun k hk=>by cases hk) (by kernel_rfl) (laid_met os))) ?_
 intro W base args ds gs before hval hW _ _ _ hL _ _
 exact contract H enc W base args ds gs before hval hW hL
theorem said:Rows.TreeBackSaid :=
 OpenClaim.holds_of_cond 5 Tryz.f5 rfl rfl rfl rfl rfl rfl rfl ⟨rfl,rfl,rfl,rfl,rfl⟩ rfl rfl rfl rfl rfl (by kernel_rfl) Tryz.func5 (by kernel_rfl)
  (of_decide_eq_true (by kernel_rfl)) (by unfold Func.isWrapper;first|(rw [if_pos (by decide+kernel)];kernel_rfl)|(rw [if_neg (by decide+kernel)];exact ⟨rfl,rfl⟩))
  (fun os started H enc _ F=>by rw [OpenClaim.pre_eq_preRow];exact lifted os started H enc F)
theorem plain (f : FuncId) (fn : Func) (hf : Tryz.pinned.checked.prog.funcNamed "cordon/cordonlaw20.TreeBack" = some f) (hfn : Tryz.pinned.checked.prog.funcs[f]? = some fn) :
  true=Tryz.pinned.checked.prog.looks []∧ ∀ (j:Nat) t,fn.params[j]? = some t→Tryz.pinned.checked.prog.wantsStandIn t=false:=by
 obtain rfl : f = 5 := Option.some.inj ((show Tryz.prog.funcNamed "cordon/cordonlaw20.TreeBack" = some 5 by kernel_rfl).symm.trans hf) |>.symm
 obtain rfl:fn=Tryz.f5:=(Option.some.inj (Tryz.func5.symm.trans hfn)).symm
 refine ⟨by kernel_rfl,fun j t ht=> ?_⟩
 rw [Tryz.params5] at ht
 have:t=22:=by
  have hm:=Array.mem_of_getElem? ht
  simp at hm
  first|omega|(rcases hm with rfl|rfl <;> simp)
 rcases this with rfl
 ·exact (show Tryz.prog.wantsStandIn 22=false by kernel_rfl)
theorem card:Rows.TreeBackCardSaid :=
 Claim7.holds_tied_plain_at .later [] _ _ _ _ said (fun _ h=>by cases h) (by kernel_rfl) (fun _ h=>by cases h) treeBack_row_tie rfl ⟨rfl,rfl⟩ (by kernel_rfl) rfl plain (by kernel_rfl)
#print axioms card
end Go.Proofs.YtnmjdjldbloefaaGreatDoor.lawTreeBack
