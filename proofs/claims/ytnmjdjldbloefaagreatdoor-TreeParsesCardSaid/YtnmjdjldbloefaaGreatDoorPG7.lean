import Derived.Test.YtnmjdjldbloefaaGreatDoorPE5
import Derived.Test.YtnmjdjldbloefaaGreatDoorPG6
import Derived.Tactics
import Derived.Tactics2
import Derived.Defers
import Derived.Laws.Pointers
import Derived.Laws.LoneSync
import Derived.RegionTactic
import Derived.RegionCalls
import Derived.ChangeAlike
import Derived.Test.YtnmjdjldbloefaaGreatDoorPG2
/- strings.Replacer: buildOnce; the parts of sync.Once's slow road. -/
namespace Go.Proofs.YtnmjdjldbloefaaGreatDoor
open Go Go.RowKit
set_option linter.unusedSimpArgs false
set_option linter.unusedVariables false
set_option maxRecDepth 100000
set_option maxHeartbeats 8000000
theorem rep_call (s:List UInt8) (hs:s.length≤1500) (H:Heap):Qc Tryz.prog 181 [.rp rowF 0,Qe s] H (fun v K=>v=Qe (escL s)∧K=H):=by
 have hn:Qq (.rp rowF 0):=by
  refine nameless_rp fun v hv=> ?_
  unfold rowF rowN at hv
  simp only [List.mem_append,List.mem_replicate,List.mem_singleton] at hv
  rcases hv with ((((((⟨_,rfl⟩|rfl)|⟨_,rfl⟩)|rfl)|⟨_,rfl⟩)|rfl)|⟨_,rfl⟩)|rfl
  ·exact Qb _
  ·exact J2 _
  ·exact Qb _
  ·exact J2 _
  ·exact Qb _
  ·exact J2 _
  ·exact Qb _
  ·refine Qx fun v hv=> ?_
   simp only [List.mem_cons,List.not_mem_nil,or_false] at hv
   rcases hv with rfl|rfl|rfl <;> exact Qd _
 refine Qc.pure (by simp [hn,Qd]) (Qd _) ?_
 rcases Nat.lt_or_ge s.length 24 with h|h
 ·exact repl_short rowF row_at10 row_at34 row_at92 row_at256 (fun n h1 h2 h3 h4=>row_other h1 h2 h3 h4) s hs h
 ·exact repl_long rowF row_at10 row_at34 row_at92 row_at256 (fun n h1 h2 h3 h4=>row_other h1 h2 h3 h4) s hs h
theorem once_call:Qc Tryz.prog 101 [.ptr 0 0] ⟨[(0,.cells true (repV 0 1 (.sc .nilIface) (.sl 1 0 6 none 1))),(1,.cells true oldL)],2⟩ (fun v K=>v= .tp []∧K=⟨[(0,.cells true (repV 0 1 (.ifc 180 (.rp rowF 0)) nilS)),(1,.cells true oldL)],2⟩):=by
 refine Qc.go Tryz.func101 rfl ?_
 (repeat' (first|with_reducible refine And.intro ?_ ?_|(with_reducible intro hc;(try simp only [zz] at hc);try exact ct)|((conv=>whnf);first|(with_reducible first|refine And.intro ?_ ?_|intro hx|apply Val.via|apply Qi.via)|exact Is.mk rfl rfl|refine sp ?_|refine vx (by (first|exact Qa rfl rfl rfl|rfl)) ?_|refine dY ?_|refine cl (build_call (b:=0) (m:=1) rfl rfl) ?_|refine sq ?_)))
 all_goals exact Qf.mk ⟨rfl,rfl⟩
theorem lDisable (w:World):(callFunc 136 #[]).run Tryz.prog w= .ok (.value (.tuple #[])) w:=run_call_mark0 Tryz.func136 (by kernel_rfl) (by kernel_rfl) (by kernel_rfl) .disable (by kernel_rfl) w
theorem lEnable (w:World):(callFunc 138 #[]).run Tryz.prog w= .ok (.value (.tuple #[])) w:=run_call_mark0 Tryz.func138 (by kernel_rfl) (by kernel_rfl) (by kernel_rfl) .enable (by kernel_rfl) w
theorem lAcquire (a:Addr) (w:World):(callFunc 139 #[.pointer (some a)]).run Tryz.prog w= .ok (.value (.tuple #[])) w:=run_call_marked Tryz.func139 (by kernel_rfl) (by kernel_rfl) (by kernel_rfl) .acquire (by kernel_rfl) a w
theorem lRMerge (a:Addr) (w:World):(callFunc 141 #[.pointer (some a)]).run Tryz.prog w= .ok (.value (.tuple #[])) w:=run_call_marked Tryz.func141 (by kernel_rfl) (by kernel_rfl) (by kernel_rfl) .releaseMerge (by kernel_rfl) a w
theorem lILock (a:Addr) (w:World) (hc:w.cell? a=some (.int .i32 0)) (hz:w.frozen? a=false) :
  Calls Tryz.prog 129 #[.pointer (some a)] w fun e w'=>e= .returned (.tuple #[])∧w'=w.setCell a (.int .i32 1):=by
 have hd:=lDisable
 have he:=lEnable
 have ha:=lAcquire
 have hcas:=run_call_cas_hit (P:=Tryz.prog) Tryz.func137 (by kernel_rfl) (by kernel_rfl) (by kernel_rfl) .i32 (by kernel_rfl) (y:=1) hc hz
 have hc':(w.setCell a (.int .i32 1)).cell? a=some (.int .i32 1):=World.cell?_setCell_same w a _ hc
 have hcv:=run_convert_to_unsafe (P:=Tryz.prog) (src:=200) (dst:=128) Tryz.underlying200 Tryz.underlying128 (by kernel_rfl) hc'
 go_enter Tryz.func129,Tryz.ntmps129
 go_wp2
 first|go_end0|(simp only [Exit.inBlock,Exit.then];refine bodyPost_ret (results_none rfl _ _ _) rfl ?_)|refine bodyPost_ret (results_none rfl _ _ _) rfl ?_
 all_goals (try go_wp2)
 all_goals (try go_end0)
 all_goals exact ⟨rfl,rfl⟩
theorem lLock (b o:Nat) (w:World) (hc:w.cell? ⟨b,o,none⟩=some (.int .i32 0)) (hz:w.frozen? ⟨b,o,none⟩=false) :
  Calls Tryz.prog 120 #[.pointer (some ⟨b,o,none⟩)] w fun e w'=>e= .returned (.tuple #[])∧w'=w.setCell ⟨b,o,none⟩ (.int .i32 1):=by
 go_enter Tryz.func120,Tryz.ntmps120
 go_wp2_with (go_at_call 129;refine (lILock ⟨b,o,none⟩ _ hc hz).mono ?_;rintro e w' ⟨rfl,rfl⟩)
 all_goals (try go_wp2)
 all_goals (try go_end0)
 all_goals exact ⟨rfl,rfl⟩
theorem lIUnlock (a:Addr) (w:World) (hc:w.cell? a=some (.int .i32 1)) (hz:w.frozen? a=false) :
  Calls Tryz.prog 130 #[.pointer (some a)] w fun e w'=>e= .returned (.tuple #[])∧w'=w.setCell a (.int .i32 0):=by
 have hd:=lDisable
 have he:=lEnable
 have hr:=lRMerge
 have hadd:=run_call_add (P:=Tryz.prog) Tryz.func142 (by kernel_rfl) (by kernel_rfl) (by kernel_rfl) .i32 (by kernel_rfl) (y:= -1) (s:=0) hc hz (by simp [go_sem];rfl)
 have hcv:=run_convert_to_unsafe (P:=Tryz.prog) (src:=200) (dst:=128) Tryz.underlying200 Tryz.underlying128 (by kernel_rfl) hc
 go_enter Tryz.func130,Tryz.ntmps130
 go_wp2
 all_goals (try go_end0)
 all_goals (try go_wp2)
 all_goals (try go_end0)
 all_goals exact ⟨rfl,rfl⟩
theorem lUnlock (b o:Nat) (u:FrameMode) (w:World) (hc:w.cell? ⟨b,o,none⟩=some (.int .i32 1)) (hz:w.frozen? ⟨b,o,none⟩=false) :
  CallsD Tryz.prog 121 #[.pointer (some ⟨b,o,none⟩)] u w fun e u' w'=>u'=u∧(e= .returned (.tuple #[])∧w'=w.setCell ⟨b,o,none⟩ (.int .i32 0)):=by
 go_enter_d Tryz.func121,Tryz.ntmps121
 go_wp2_with (go_at_call 130;refine (lIUnlock ⟨b,o,none⟩ _ hc hz).mono ?_;rintro e w' ⟨rfl,rfl⟩)
 all_goals (try go_wp2)
 all_goals (try go_end0)
 all_goals exact ⟨rfl,rfl⟩
theorem lStore (a:Addr) (x:Value) (u:FrameMode) (w:World) (hc:w.cell? a=some x) (hz:w.frozen? a=false) :
  CallsD Tryz.prog 122 #[.pointer (some a),.bool true] u w fun e u' w'=>u'=u∧(e= .returned (.tuple #[])∧w'=w.drew.setCell a (.int .u32 1)):=by
 have hc':w.drew.cell? a=some x:=by go_simp
 have hz':w.drew.frozen? a=false:=by go_simp
 have hst:=run_call_store (P:=Tryz.prog) Tryz.func131 (by kernel_rfl) (by kernel_rfl) (by kernel_rfl) (by kernel_rfl) (k:= .u32) (y:=1) hc' hz'
 go_enter_d Tryz.func122,Tryz.ntmps122
 go_wp2
 go_region_calls
 all_goals (go_end0;exact ⟨rfl,rfl⟩)
theorem lLoad (a:Addr) (x:Int) (w:World) (hc:w.cell? a=some (.int .u32 x)) (c:Bool) (hx:(x != 0)=c) :
  Calls Tryz.prog 110 #[.pointer (some a)] w fun e w'=>e= .returned (.bool c)∧w'=w:=by
 subst hx
 have hl:=run_call_load (P:=Tryz.prog) Tryz.func119 (by kernel_rfl) (by kernel_rfl) (by kernel_rfl) .u32 (by kernel_rfl) hc
 go_enter Tryz.func110,Tryz.ntmps110
 go_wp2
 all_goals (first|go_ret|go_ret2|go_end0)
 all_goals exact ⟨rfl,rfl⟩
def hpA (d l:Int) (r o:VV):Heap:=⟨[(0,.cells true (repV d l r o)),(1,.cells true oldL)],2⟩
theorem cellA {B:World} {M Z:Nat→Prop} {ρ:Nat→Option (Nat×Nat)} {w:World} {d l:Int} {r o:VV} {k N:Nat} (h:Rel B M Z ρ (hpA d l r o) w) (hk:ρ 0=some (k,N)):w.cell? ⟨k,0,none⟩=some (.int .u32 d)∧w.cell? ⟨k,1,none⟩=some (.int .i32 l)∧w.frozen? ⟨k,0,none⟩=false∧w.frozen? ⟨k,1,none⟩=false:=by
 obtain ⟨k',N',cs,t,fr,g1,g2,g3,g4,g5⟩:=h.at_ (b:=0) (r:=true) (vs:=repV d l r o) rfl
 rw [hk] at g1;injection g1 with g1;injection g1 with g1 g1';subst g1 g1'
 obtain ⟨c0,h0,r0⟩:=g4 0 _ rfl
 obtain ⟨c1,h1,r1⟩:=g4 1 _ rfl
 cases r0
 cases r1
 have hN:2≤N:=by
  have:=(List.getElem?_eq_some_iff.1 h1).1
  simp at this
  omega
 refine ⟨?_,?_,?_,?_⟩
 ·rw [Jp g2];simpa using h0
 ·rw [Jp g2];simpa using h1
 ·rw [Yn g2];exact nofr g5 (by omega)
 ·rw [Yn g2];exact nofr g5 (by omega)
theorem slow_call:Qc Tryz.prog 111 [.ptr 0 0,.fn (.func 101) [.ptr 0 0] []] (hpA 0 0 (.sc .nilIface) (.sl 1 0 6 none 1)) (fun v K=>v= .tp []∧K=hpA 1 0 (.ifc 180 (.rp rowF 0)) nilS):=fun B M Z ρ w ra h1 h2=>by
 obtain ⟨k,N,rfl,hk⟩: ∃ k N,ra= #[.pointer (some ⟨k,0,none⟩),.func (.func 101) #[.pointer (some ⟨k,0,none⟩)] #[]]∧ρ 0=some (k,N):=by
  obtain ⟨ra⟩:=ra
  match ra,h2 with
  | [y,z],h2 =>
   have hy:Qm w Z ρ (.ptr 0 0) y:=h2.2 0 _ _ rfl rfl
   have hz:Qm w Z ρ (.fn (.func 101) [.ptr 0 0] []) z:=h2.2 1 _ _ rfl rfl
   cases hy with
   | @ptr _ _ k N hk =>
    cases hz with
    | @fn _ _ _ cs ds e1 r1 e2 r2 =>
     obtain ⟨cs⟩:=cs
     obtain ⟨ds⟩:=ds
     match cs,e1,r1 with
     | [q],e1,r1 =>
      have hq:Qm w Z ρ (.ptr 0 0) q:=r1 0 _ _ rfl rfl
      cases hq with
      | @ptr _ _ k2 N2 hk2 =>
       rw [hk] at hk2
       cases hk2
       obtain rfl:ds= []:=List.eq_nil_of_length_eq_zero e2.symm
       exact ⟨k,N,rfl,hk⟩
     | [],e1,_=>simp at e1
     | _::_::_,e1,_=>simp at e1
  | [],h2=>have:=h2.1;simp at this
  | [_],h2=>have:=h2.1;simp at this
  | _::_::_::_,h2=>have:=h2.1;simp at this
 obtain ⟨c0,c1,f0,f1⟩:=cellA h1 hk
 obtain ⟨_,x1,R1⟩:=h1.write (b:=0) (vs:=repV 0 0 (.sc .nilIface) (.sl 1 0 6 none 1)) rfl hk (l:= [.sc (.int .i32 1)]) (xs:= [.int .i32 1]) (Pw.cons (.sc rfl) Pw.nil) (by simp [Value.oneCell']) 1 (P:=Tryz.prog) (by decide)
 have R1':Rel B M Z ρ (hpA 0 1 (.sc .nilIface) (.sl 1 0 6 none 1)) (w.setCell ⟨k,1,none⟩ (.int .i32 1)):=R1
 obtain ⟨d0,d1,_,_⟩:=cellA R1' hk
 have hin:=once_call B M Z ρ _ #[.pointer (some ⟨k,0,none⟩)] R1' (Pw.cons (.ptr hk) Pw.nil)
 have hnot: ∀ (x:Bool) (w:World),(Op.unary .not (.bool x)).run Tryz.prog w= .ok (.bool (!x)) w:=fun _ _=>rfl
 go_enter_defers Tryz.func111,Tryz.ntmps111
 go_wp2_with (first|(go_at_call 120;refine (lLock k 1 _ c1 f1).mono ?_;rintro e w' ⟨rfl,rfl⟩)|(go_at_call 110;refine (lLoad _ 0 _ d0 false rfl).mono ?_;rintro e w' ⟨rfl,rfl⟩))
 refine hin.mono ?_
 rintro e w2 ⟨v',v,H',Z',ρ',rfl,⟨rfl,rfl⟩,x2,R2,hv⟩
 have hk':ρ' 0=some (k,N):=x2.rsub _ _ hk
 have R2':Rel B M Z' ρ' (hpA 0 1 (.ifc 180 (.rp rowF 0)) nilS) w2:=R2
 obtain ⟨e0,e1,g0,g1⟩:=cellA R2' hk'
 go_wp2
 refine leaves_cons (f:=122) (args:= #[.pointer (some ⟨k,0,none⟩),.bool true]) (by simp) (by simp [go_sem]) ?_
 refine (lStore ⟨k,0,none⟩ (.int .u32 0) .returning _ e0 g0).mono ?_
 rintro e u' w3 ⟨rfl,rfl,rfl⟩
 obtain ⟨_,x3,R3⟩:=R2'.drew.write (b:=0) (vs:=repV 0 1 (.ifc 180 (.rp rowF 0)) nilS) rfl hk' (l:= [.sc (.int .u32 1)]) (xs:= [.int .u32 1]) (Pw.cons (.sc rfl) Pw.nil) (by simp [Value.oneCell']) 0 (P:=Tryz.prog) (by decide)
 have R3':Rel B M Z' ρ' (hpA 1 1 (.ifc 180 (.rp rowF 0)) nilS) (w2.drew.setCell ⟨k,0,none⟩ (.int .u32 1)):=R3
 obtain ⟨_,i1,_,j1⟩:=cellA R3' hk'
 refine leaves_cons (f:=121) (args:= #[.pointer (some ⟨k,1,none⟩)]) (by simp [settle]) (by simp [go_sem]) ?_
 refine (lUnlock k 1 _ _ i1 j1).mono ?_
 rintro e u' w4 ⟨rfl,rfl,rfl⟩
 obtain ⟨_,x4,R4⟩:=R3'.write (b:=0) (vs:=repV 1 1 (.ifc 180 (.rp rowF 0)) nilS) rfl hk' (l:= [.sc (.int .i32 0)]) (xs:= [.int .i32 0]) (Pw.cons (.sc rfl) Pw.nil) (by simp [Value.oneCell']) 1 (P:=Tryz.prog) (by decide)
 have R4':Rel B M Z' ρ' (hpA 1 0 (.ifc 180 (.rp rowF 0)) nilS) ((w2.drew.setCell ⟨k,0,none⟩ (.int .u32 1)).setCell ⟨k,1,none⟩ (.int .i32 0)):=R4
 have hx:Ext (own B M) 2 Z ρ w 2 Z' ρ' ((w2.drew.setCell ⟨k,0,none⟩ (.int .u32 1)).setCell ⟨k,1,none⟩ (.int .i32 0)):=((x1.trans x2).trans (Ext.drew.trans x3)).trans x4
 have hfin: ∃ v' v H' Z'' ρ'',Ending.returned (.tuple #[])= .returned v'∧(v=VV.tp []∧H'=hpA 1 0 (.ifc 180 (.rp rowF 0)) nilS)∧Ext (own B M) (hpA 0 0 (.sc .nilIface) (.sl 1 0 6 none 1)).next Z ρ w H'.next Z'' ρ'' ((w2.drew.setCell ⟨k,0,none⟩ (.int .u32 1)).setCell ⟨k,1,none⟩ (.int .i32 0))∧Rel B M Z'' ρ'' H' ((w2.drew.setCell ⟨k,0,none⟩ (.int .u32 1)).setCell ⟨k,1,none⟩ (.int .i32 0))∧Qm ((w2.drew.setCell ⟨k,0,none⟩ (.int .u32 1)).setCell ⟨k,1,none⟩ (.int .i32 0)) Z'' ρ'' v v':=⟨_,.tp [],_,Z',ρ',rfl,⟨rfl,rfl⟩,hx,R4',Qm.undef⟩
 simp only [Leaves,settle]
 first|exact ⟨.tuple #[],results_none rfl _ _ _,hfin⟩|exact ⟨.tuple #[],by simp [results,Tryz.results111],hfin⟩
theorem load_call (d l:Int) (r o:VV) (c:Bool) (hd:(d != 0)=c):Qc Tryz.prog 110 [.ptr 0 0] (hpA d l r o) (fun v K=>v= .sc (.bool c)∧K=hpA d l r o):=fun B M Z ρ w ra h1 h2=>by
 obtain ⟨y,rfl,hy⟩: ∃ y,ra= #[y]∧Qm w Z ρ (.ptr 0 0) y:=by
  obtain ⟨ra⟩:=ra
  match ra,h2 with
  | [y],h2=>exact ⟨y,rfl,h2.2 0 _ _ rfl rfl⟩
  | [],h2=>have:=h2.1;simp at this
  | _::_::_,h2=>have:=h2.1;simp at this
 cases hy with
 | @ptr _ _ k N hk =>
  obtain ⟨c0,_,_,_⟩:=cellA h1 hk
  refine (lLoad _ d _ c0 c hd).mono ?_
  rintro e w' ⟨rfl,rfl⟩
  exact ⟨_,.sc (.bool c),_,Z,ρ,rfl,⟨rfl,rfl⟩,Ext.refl _ _ _ _,h1,.sc rfl⟩
theorem do_call:Qc Tryz.prog 100 [.ptr 0 0,.fn (.func 101) [.ptr 0 0] []] (hpA 0 0 (.sc .nilIface) (.sl 1 0 6 none 1)) (fun v K=>v= .tp []∧K=hpA 1 0 (.ifc 180 (.rp rowF 0)) nilS):=by
 refine Qc.go Tryz.func100 rfl ?_
 (repeat' (first|with_reducible refine And.intro ?_ ?_|(with_reducible intro hc;(try simp only [zz] at hc);try exact ct)|((conv=>whnf);first|(with_reducible first|refine And.intro ?_ ?_|intro hx|apply Val.via|apply Qi.via)|exact Is.mk rfl rfl|refine sp ?_|refine vx (by (first|exact Qa rfl rfl rfl|rfl)) ?_|refine dY ?_|(first|refine cl (load_call 0 0 _ _ false rfl) ?_|refine cl (slow_call) ?_)|refine sq ?_)))
 all_goals exact Qf.mk ⟨rfl,rfl⟩
theorem cell3 {B:World} {M Z:Nat→Prop} {ρ:Nat→Option (Nat×Nat)} {w:World} {d l:Int} {o:VV} {row:List VV} {k N:Nat} (h:Rel B M Z ρ (hpA d l (.ifc 180 (.rp row 0)) o) w) (hk:ρ 0=some (k,N)): ∃ k3 o3,w.cell? ⟨k,3,none⟩=some (.iface 180 (.pointer (some ⟨k3,o3,none⟩)))∧Qm w Z ρ (.rp row 0) (.pointer (some ⟨k3,o3,none⟩)):=by
 obtain ⟨k',N',cs,t,fr,g1,g2,g3,g4,g5⟩:=h.at_ (b:=0) (r:=true) (vs:=repV d l (.ifc 180 (.rp row 0)) o) rfl
 rw [hk] at g1;injection g1 with g1;injection g1 with g1 g1';subst g1 g1'
 obtain ⟨c3,h3,r3⟩:=g4 3 _ rfl
 cases r3 with
 | ifc hx =>
  cases hx with
  | @rp k3 o3 _ _ cs3 z1 z2 z3 z4 =>
   exact ⟨k3,o3+0,by rw [Jp g2];simpa using h3,.rp z1 z2 z3 z4⟩
theorem replace_call (s:List UInt8) (hs:s.length≤1500):Qc Tryz.prog 79 [.ptr 0 0,Qe s] (hpA 0 0 (.sc .nilIface) (.sl 1 0 6 none 1)) (fun v K=>v=Qe (escL s)∧K=hpA 1 0 (.ifc 180 (.rp rowF 0)) nilS):=fun B M Z ρ w ra h1 h2=>by
 obtain ⟨k,N,rfl,hk⟩: ∃ k N,ra= #[.pointer (some ⟨k,0,none⟩),.string ⟨s.toArray⟩]∧ρ 0=some (k,N):=by
  obtain ⟨ra⟩:=ra
  match ra,h2 with
  | [y,z],h2 =>
   have hy:Qm w Z ρ (.ptr 0 0) y:=h2.2 0 _ _ rfl rfl
   have hz:Qm w Z ρ (Qe s) z:=h2.2 1 _ _ rfl rfl
   cases hy with
   | @ptr _ _ k N hk =>
    cases hz with
    | sc=>exact ⟨k,N,rfl,hk⟩
  | [],h2=>have:=h2.1;simp at this
  | [_],h2=>have:=h2.1;simp at this
  | _::_::_::_,h2=>have:=h2.1;simp at this
 have hin:=do_call B M Z ρ w #[.pointer (some ⟨k,0,none⟩),.func (.func 101) #[.pointer (some ⟨k,0,none⟩)] #[]] h1 (Pw.cons (.ptr hk) (Pw.cons (.fn rfl (fun i u c hu hc=>(Pw.cons (.ptr hk) Pw.nil:Pw (Qm w Z ρ) [.ptr 0 0] [.pointer (some ⟨k,0,none⟩)]).2 i u c hu hc) rfl (fun i u c hu=>by simp at hu)) Pw.nil))
 have hm : ∀ (w : World) (a : Addr), (method 341 180 (.pointer (some a)) "Replace").run Tryz.prog w = .ok (181, .pointer (some a)) w := fun _ _ => by kernel_rfl
 go_enter Tryz.func79,Tryz.ntmps79
 go_wp2_with (first|(go_at_call 100;refine hin.mono ?_;rintro e w2 ⟨v',v,H',Z',ρ',rfl,⟨rfl,rfl⟩,x2,R2,hv⟩;obtain ⟨k3,o3,c3,hp⟩:=cell3 R2 (x2.rsub _ _ hk))|(go_at_call 181;refine (rep_call s hs _ B M Z' ρ' w2 #[.pointer (some ⟨k3,o3,none⟩),.string ⟨s.toArray⟩] R2 (Pw.cons hp (Pw.cons (.sc rfl) Pw.nil))).mono ?_;rintro e w3 ⟨v2',v2,H2,Z2,ρ2,rfl,⟨rfl,rfl⟩,x3,R3,hv3⟩))
 all_goals (first|go_ret|go_ret2|go_end0)
 all_goals exact ⟨_,Qe (escL s),_,Z2,ρ2,rfl,⟨rfl,rfl⟩,x2.trans x3,R3,hv3⟩
theorem replE_call (s:List UInt8) (hs:s.length≤1500):Qc Tryz.prog 79 [.ptr 0 0,Qe s] (hpA 0 0 (.sc .nilIface) (.sl 1 0 6 none 1)) (fun v K=>v=Qe (escL s)∧K=⟨[],2⟩):=by
 refine Qc.post (Q:=fun v K=>v=Qe (escL s)∧K.next≤2) ((replace_call s hs).mono fun v K e=>⟨e.1,by rw [e.2];exact Nat.le_refl _⟩) ?_
 rintro v K ⟨rfl,h⟩
 exact ⟨Qe (escL s),⟨[],2⟩,⟨rfl,rfl⟩,fun _ _ _ _ h=>h,h,fun b x hb=>by cases hb⟩
theorem repAt (s:List UInt8) (hs:s.length≤1500) {H:Heap} {b m:Nat} (hb:H.get b=some (.cells true (repV 0 0 (.sc .nilIface) (.sl m 0 6 none 1)))) (hm:H.get m=some (.cells true oldL)) (hbm:Nat.beq m b=false) :
  Qc Tryz.prog 79 [.ptr b 0,Qe s] H (fun v K=>v=Qe (escL s)∧K=⟨Qw [b,m] H.objs,H.next⟩):=by
 have hmb:m≠b:=fun e=>by rw [e,Nat.beq_refl] at hbm;cases hbm
 refine Qc.live fun hlive=> ?_
 have hbl:=hlive b _ hb
 have hml:=hlive m _ hm
 have hbm':Nat.beq b m=false:=El (fun e=>hmb e.symm)
 refine Qc.at (n1:=2) (O1:=(hpA 0 0 (.sc .nilIface) (.sl 1 0 6 none 1)).objs) [b,m] [(b,0),(m,1)] ?_ ⟨⟨_,(Z8 (Ju.2 (by simp))).trans hb,.cells (.cons (.of (Qb _)) (.cons (.of (Qb _)) (.cons (.of (Qb _)) (.cons (.of (Qb _)) (.cons (.sl (by simp)) .nil)))))⟩,⟨_,(Z8 (Ju.2 (by simp))).trans hm,.cells (.of E5)⟩,trivial⟩ (.cons (.ptr (by simp)) (.cons (.of (Qd _)) .nil)) (replE_call s hs) ?_
 ·show (wfR 0 2 [(b,0),(m,1)]&&nodupB [b,m]&&_)=true
  simp only [nodupB,List.all_cons,List.all_nil,hbm']
  rfl
 ·rintro v K ⟨rfl,rfl⟩
  have e1:Nat.blt b H.next=true:=Q9.2 hbl
  have e2:Nat.blt m H.next=true:=Q9.2 hml
  have e7: ∀ n,Nat.ble 0 n=true:=fun n=>Nat.ble_eq_true_of_le (Nat.zero_le n)
  refine ⟨Qe (escL s),[],⟨?_,.of (Qd _),trivial⟩,rfl,rfl,rfl⟩
  show (wfR 0 (H.next+0) [(0,b),(1,m)]&&true&&true&&true)=true
  simp only [wfR,srcN,e1,e2,e7,hbm,Nat.add_zero]
  rfl
theorem quote_call (t:List UInt8) (ht:t.length≤1500) (H:Heap):Qc Tryz.prog 52 [Qe t] H (fun v K=>v=Qe (Wg t)∧K=H):=by
 refine Qc.pure (by simp [Qd]) (Qd _) ?_
 have hel:=Wv t
 refine Qc.go Tryz.func52 rfl ?_
 (repeat' (first|with_reducible refine And.intro ?_ ?_|(with_reducible intro hc;(try simp only [zz] at hc);try exact ct)|((conv=>whnf);first|(with_reducible first|refine And.intro ?_ ?_|intro hx|apply Val.via|apply Qi.via)|exact Is.mk rfl rfl|refine sp ?_|refine vx (by (first|exact Qa rfl rfl rfl|rfl)) ?_|refine dY ?_|(first|(refine Q7.mk (Qc.inl Tryz.func78 rfl ?_))|refine cl (repAt t ht rfl rfl rfl) ?_)|refine sq ?_)))
 (all_goals (first|omega|contradiction|(exfalso;have hmx:IntKind.i64.max=9223372036854775807:=rfl;rw [hmx] at hx;simp [ByteArray.size_append,ByteArray.size] at hx;omega)|skip))
 all_goals exact Qf.mk (by rw [Bi];exact catQ ([34]++escL t) [34])
end Go.Proofs.YtnmjdjldbloefaaGreatDoor
