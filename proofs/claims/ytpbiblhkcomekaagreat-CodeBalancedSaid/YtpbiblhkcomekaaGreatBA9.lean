import Derived.Test.YtpbiblhkcomekaaGreatBE5
import Derived.Test.YtpbiblhkcomekaaGreatBB1
import Derived.Test.YtpbiblhkcomekaaGreatBA8
import Derived.Test.YtpbiblhkcomekaaGreatBB3
import Derived.Test.YtpbiblhkcomekaaGreatBE3
import Derived.ProofKit
import Derived.OpenShut
import Derived.Test.YtpbiblhkcomekaaGreatRows
import Derived.ShutString
import Derived.ChangeOld
import Derived.Below
import Derived.Lib.SmallJoins
/- The law CodeBalanced, walked. -/
namespace Go.Proofs.YtpbiblhkcomekaaGreat
open Go Go.RowKit
set_option linter.unusedSimpArgs false
set_option linter.unusedVariables false
set_option maxRecDepth 100000
set_option maxHeartbeats 8000000
theorem idxl3 {n m:Nat} (h:n=m+1):((n:Int) - 1).toNat*3=m*3:=by omega
theorem idxl3' {n m:Nat} (h:n=m+1):0+((n:Int) - 1).toNat*3=m*3:=by omega
theorem one_nm (l:List (List UInt8)):(nmR l).all VV.one=true:=by unfold nmR;simp [Qn,VV.one]
theorem velems_nm (x:List (List UInt8)) (H:Heap):Jv 1 (.ro x.length (nmR x)) H=some (x.length,nmR x):=by simp [Jv,Wb]
theorem exact_nm (x:List (List UInt8)): ∀ v∈nmR x,Exact v:=fun v hv=>by
 obtain ⟨y,-,rfl⟩:=List.mem_map.1 hv
 exact Y2 _
theorem cloneS_call {H:Heap} {b:Nat} (x:List (List UInt8)) (hm:x.length≤1000000) (hg:H.get b=some (.opt (nmR x))):Qc Tryz.prog 37 [.gs b x.length 1] H (fun v K=>v= .ro x.length (nmR x)∧K=H):=by
 refine Qc.viewed (args':= [.ro x.length (nmR x)]) (Q:=fun v K=>Frx K v (.ro x.length (nmR x))) (.cons (Cq.gs hg (Wb x) (Jb x)) .nil) ?_ (fun v K h=>h)
 by_cases hl:x.length=0
 ·have hl2:=List.eq_nil_of_length_eq_zero hl
  subst hl2
  refine Qc.go Tryz.func37 rfl ?_
  repeat' (first|with_reducible refine And.intro ?_ ?_|((with_reducible intro hc);(try simp only [zA,zB,zC,zD,zE,zF,zG,zH,zI,zJ,zK,zL,zM,zN,zO,zP,zQ,zR,zS,zT,zU,zV,zW] at hc);(first|exact absurd rfl hc|exact absurd trivial hc|(exfalso;omega)|skip))|((conv=>whnf);first|with_reducible refine And.intro ?_ ?_|refine Ji ?_ ?_|refine xA (by omega) ?_|(refine xB ?_;intro kw hk1 hk2)|refine xC (by omega) ?_|refine xD ?_|refine xE (by omega) ?_|refine xF (by omega) ?_|refine xG ?_|refine xH ?_|refine xI (by omega) ?_|refine xJ (by omega) ?_|(with_reducible refine Yq ?_)|refine Exists.intro _ (And.intro (by rfl) ?_)|refine GOp.via (by rfl) ?_|(with_reducible first|refine Qw ?_|refine Yn ?_|refine Yo ?_|refine X6 ?_|refine Ym ?_|refine Yp ?_|refine Yl ?_)))
  ·exact Qg.mk Frx.nil0
  ·exact Qg.mk (Frx.sl rfl (by simp) (by intro v hv;have hv:v∈([]:List VV):=hv;cases hv))
 ·refine Qc.go Tryz.func37 rfl ?_
  repeat' (first|with_reducible refine And.intro ?_ ?_|((with_reducible intro hc);(try simp only [zA,zB,zC,zD,zE,zF,zG,zH,zI,zJ,zK,zL,zM,zN,zO,zP,zQ,zR,zS,zT,zU,zV,zW] at hc);(first|exact absurd rfl hc|exact absurd trivial hc|(exfalso;omega)|skip))|((conv=>whnf);first|with_reducible refine And.intro ?_ ?_|refine Ji ?_ ?_|refine xA (by omega) ?_|(refine xB ?_;intro kw hk1 hk2)|refine xC (by omega) ?_|refine xD ?_|refine xE (by omega) ?_|refine xF (by omega) ?_|refine xG ?_|refine xH ?_|refine xI (by omega) ?_|refine xJ (by omega) ?_|(with_reducible refine Yq ?_)|refine Exists.intro _ (And.intro (by rfl) ?_)|refine GOp.via (by rfl) ?_|(with_reducible first|refine Qw ?_|refine Yn ?_|refine Yo ?_|refine X6 ?_|refine Ym ?_|refine Yp ?_|refine Yl ?_)))
  refine Qr.via ((Um sty_Sx (d:= .slice 9) Tryz.underlying28 (by intro k h;cases h) (b:=0) (o:=0) (n:=0) (c:=0) (z':=1) (vs:= []) (rw:=true) (m:=x.length) (l:=nmR x) (velems_nm x _) (one_nm x) rfl (by omega) (by omega) (by simp) (by omega) (by omega)).trans (by rw [Nat.zero_add])) ?_
  repeat' (first|with_reducible refine And.intro ?_ ?_|((with_reducible intro hc);(try simp only [zA,zB,zC,zD,zE,zF,zG,zH,zI,zJ,zK,zL,zM,zN,zO,zP,zQ,zR,zS,zT,zU,zV,zW] at hc);(first|exact absurd rfl hc|exact absurd trivial hc|(exfalso;omega)|skip))|((conv=>whnf);first|with_reducible refine And.intro ?_ ?_|refine Ji ?_ ?_|refine xA (by omega) ?_|(refine xB ?_;intro kw hk1 hk2)|refine xC (by omega) ?_|refine xD ?_|refine xE (by omega) ?_|refine xF (by omega) ?_|refine xG ?_|refine xH ?_|refine xI (by omega) ?_|refine xJ (by omega) ?_|(with_reducible refine Yq ?_)|refine Exists.intro _ (And.intro (by rfl) ?_)|refine GOp.via (by rfl) ?_|(with_reducible first|refine Qw ?_|refine Yn ?_|refine Yo ?_|refine X6 ?_|refine Ym ?_|refine Yp ?_|refine Yl ?_)))
  refine Qg.mk ?_
  have:=Frx.sl (K:=⟨[(1,.cells true (nmR x)),(0,.cells true [])],2⟩) (b:=1) (o:=0) (n:=x.length) (z:=1) (c:=none) rfl (by rw [Wb];omega) (exact_nm x)
  rw [List.drop_zero,List.take_of_length_le (by rw [Wb];omega)] at this
  exact this
theorem mul2 {a b z:Nat} (hz:z=2) (h:a=b):a*z=b*2:=by subst hz h;rfl
theorem vat_hnd {l:List Hnd} {i o:Nat} {nm:List UInt8} {ps:List Nat} {cd:List Ins} (hk:l[i]? = some ⟨nm,ps,cd⟩) (ho:o=i*2):vat Tryz.prog 38 (hdR l) o=some (.ag [.ro ps.length (ivR ps),.ro cd.length (Xn cd)]):=by
 generalize hh:(⟨nm,ps,cd⟩:Hnd)=h at hk
 subst ho
 have h1:Wo Tryz.prog 38=some true:=by kernel_rfl
 have h2:Jr Tryz.prog 38=some 2:=by kernel_rfl
 have key: ∀ (l:List Hnd) (i:Nat),l[i]? = some h→((hdR l).drop (i*2)).take 2=hdC h∧i*2+2≤(hdR l).length:=by
  intro l
  induction l with
  | nil=>intro i e;simp at e
  | cons q r ih =>
   intro i e
   have e2:hdR (q::r)=hdC q++hdR r:=by unfold hdR;rw [Xy]
   rw [e2]
   cases i with
   | zero =>
    simp at e
    subst e
    refine ⟨?_,by rw [List.length_append,hdC_len];omega⟩
    rfl
   | succ i =>
    have ih:=ih i (by simpa using e)
    refine ⟨?_,by rw [List.length_append,hdC_len];omega⟩
    rw [show (i+1)*2=2+i*2 by omega,← List.drop_drop]
    exact ih.1
 obtain ⟨e1,e2⟩:=key l i hk
 simp only [vat,h1,h2,e1]
 rw [Nat.ble_eq_true_of_le e2]
 subst hh
 rfl
theorem ops_op: ∀ (l:List Ins) (i:Nat) (x:Ins),l[i]? = some x→(Xn l)[i*3]? = some (iV x.op)
 | [],i,x,h=>by simp at h
 | q::r,0,x,h=>by
  simp at h
  subst h
  rfl
 | q::r,i+1,x,h=>by
  have ih:=ops_op r i x (by simpa using h)
  have e:Xn (q::r)=insC q++Xn r:=by unfold Xn;rw [Xy]
  rw [e,List.getElem?_append_right (by rw [Zz];omega),Zz,show (i+1)*3 - 3=i*3 by omega]
  exact ih
theorem balanced_at (l:List Ins) (D:Nat→Int) (hB:BalC l D) (hl:l.length≤8192) (H:Heap):Qc Tryz.prog 11 [.ro l.length (Xn l)] H (fun v K=>v=Xk true∧K=H) :=
 Qc.pure (by intro v hv;rw [List.mem_singleton] at hv;subst hv;exact Qx (Yx l)) (Qb _) (balanced_call l D hB hl)
theorem En (t:List UInt8):Qc Tryz.prog 3 [roB t] ⟨[],0⟩ (fun v _=>v= .sc (.bool true)):=by
 have hlv:=fun H=>lives22_call H
 have hk:True:=trivial
 have hla:True:=trivial
 have hlc:True:=trivial
 have hp:True:=trivial
 by_cases hl:1000 < t.length
 ·refine Qc.go Tryz.func3 rfl ?_
  (repeat' (first|with_reducible refine And.intro ?_ ?_|(with_reducible intro hc;(try simp only [zz] at hc);try exact ct)|((conv=>whnf);first|(with_reducible first|refine And.intro ?_ ?_|intro hx|apply Val.via|apply Qk.via)|exact Is.mk rfl rfl|refine sp ?_|refine vx (by (first|exact Qa rfl rfl rfl|rfl)) ?_|refine dY ?_|refine cl (hlv _) ?_|refine sq ?_)))
  (all_goals try exact om)
  all_goals exact Qg.mk rfl
 have hof:=fun H=>of_call t (by omega) H
 cases he:ofM t with
 | inl e =>
  have h0:=ofM_pos he
  rw [he] at hof
  have hof: ∀ H,Qc _ _ _ H (fun v K=>v= .tp [.sc (.pointer none),iV e]∧K=H):=hof
  refine Qc.go Tryz.func3 rfl ?_
  (repeat' (first|with_reducible refine And.intro ?_ ?_|(with_reducible intro hc;(try simp only [zz] at hc);try exact ct)|((conv=>whnf);first|(with_reducible first|refine And.intro ?_ ?_|intro hx|apply Val.via|apply Qk.via)|exact Is.mk rfl rfl|refine sp ?_|refine vx (by (first|exact Qa rfl rfl rfl|rfl)) ?_|refine dY ?_|(first|refine cl (hlv _) ?_|refine cl (hof _) ?_)|refine sq ?_)))
  (all_goals try exact om)
  all_goals exact Qg.mk rfl
 | inr g =>
  obtain ⟨p1,p2,p3,p4,p5,p6⟩:=ofM_ok (by omega) he
  rw [he] at hof
  have hof: ∀ H:Heap,Qc _ _ _ H (fun v K=>v= .tp [.ptr H.next 0,iV 0]∧K=⟨pgO H.next (H.next+1) (H.next+2) (H.next+3) g++H.objs,H.next+4⟩):=hof
  have hx:Qd (roS (ofL ltS g.calls)):=Qx (Jf Qj _)
  have hall:=all_call hx p1 p2 p3
  have hm:=fun h=>(srtH_mem (l:=g.hs) (h:=h)).1
  have hsl:=srtH_len g.hs
  have hmk:g.hs.map (fun h=>strK h.name)=(g.hs.map (·.name)).map keyV:=by rw [List.map_map];rfl
  unfold pgO at hof
  rw [hmk] at hof
  unfold pgB at hall
  generalize srtH g.hs=S at *
  generalize roS (ofL ltS g.calls)=x at *
  rw [← hsl] at hall
  have hnc:=fun (H:Heap) (hg:H.get 2=some (.opt (nmR g.names)))=>cloneS_call (H:=H) g.names (by omega) hg
  refine Qc.go Tryz.func3 rfl ?_
  (repeat' (first|with_reducible refine And.intro ?_ ?_|(with_reducible intro hc;(try simp only [zz] at hc);try exact ct)|((conv=>whnf);first|(with_reducible first|refine And.intro ?_ ?_|intro hx|apply Val.via|apply Qk.via)|exact Is.mk rfl rfl|refine sp ?_|refine vx (by (first|exact Qa rfl rfl rfl|rfl)) ?_|refine dY ?_|(first|refine cl (hlv _) ?_|refine cl (hof _) ?_|refine cl (hall) ?_|(refine Xc.mk (Qc.inl Tryz.func10 rfl ?_)))|refine sq ?_)))
  (all_goals try exact om)
  (refine Ju.mk (GWP.loopB [] (fun (i:Nat)=>i≤S.length) (fun i=> [(37,iV i)]) (fun _=> []) 7 (fun i=>S.length - i) 0 (Nat.zero_le _) ?_);(conv=>whnf);refine And.intro ?_ ?_)
  ·focus (refine ka [] ?_ ?_;all_goals (repeat' (first|exact rz|refine And.intro ?_ ?_|refine Exists.intro _ (And.intro rfl ?_)|refine ro ?_|refine Qe.cons ?_ ?_|fail|exact rv)))
  rintro i g1
  simp only at g1 ⊢
  by_cases hil:i < S.length
  ·clear hk hla hlc
   obtain ⟨hd,hk⟩: ∃ hd,S[i]? = some hd:=⟨_,List.getElem?_eq_getElem hil⟩
   obtain ⟨hpr,hcl,D,hB⟩:=p6 hd (hm hd (List.mem_of_getElem? hk))
   have hpl:=(p3 hd (hm hd (List.mem_of_getElem? hk))).2.1
   have hbal:=fun H=>balanced_at hd.code D hB hcl H
   obtain ⟨r,tt,hr⟩:=hB.la
   have hlc:hd.code.length=r.length+1:=by rw [hr];simp
   have hla:(Xn hd.code)[r.length*3]? = some (iV 10):=ops_op hd.code r.length ⟨10,0,tt⟩ (by rw [hr];simp)
   obtain ⟨hnm,ps,cd⟩:=hd
   simp only at hpr hcl hbal hlc hla hB hr hpl
   clear hB hr
   (repeat' (first|with_reducible refine And.intro ?_ ?_|(with_reducible intro hc;(try simp only [zz] at hc);try exact ct)|((conv=>whnf);first|(with_reducible first|refine And.intro ?_ ?_|intro hx|apply Val.via|apply Qk.via)|exact Is.mk rfl rfl|refine sp ?_|refine vx (by (first|exact vat_hnd hk (mul2 rfl rfl)|exact Qa vagg_op hla (idxl3 hlc)|exact Qa vagg_op hla (idxl3' hlc)|exact Qa vagg_int hp (Q4 rfl rfl)|exact Qa vagg_int hp ((Nat.zero_add _).trans (Q4 rfl rfl))|exact Qa rfl rfl rfl|rfl)) ?_|refine cl (hbal _) ?_|refine sq ?_)))
   (all_goals try exact om)
   (refine Ju.mk (GWP.loopB [] (fun (j:Nat)=>j≤ps.length) (fun j=> [(65,iV j)]) (fun _=> []) 8 (fun j=>ps.length - j) 0 (Nat.zero_le _) ?_);(conv=>whnf);refine And.intro ?_ ?_)
   ·focus (refine ka [] ?_ ?_;all_goals (repeat' (first|exact rz|refine And.intro ?_ ?_|refine Exists.intro _ (And.intro rfl ?_)|refine ro ?_|refine Qe.cons ?_ ?_|fail|exact rv)))
   rintro j g2
   simp only at g2 ⊢
   by_cases hjl:j < ps.length
   ·clear hp
    obtain ⟨q,hq⟩: ∃ q,ps[j]? = some q:=⟨_,List.getElem?_eq_getElem hjl⟩
    have hql:=hpr q (List.mem_of_getElem? hq)
    have hp:(ivR ps)[j]? = some (iV q):=by unfold ivR;rw [List.getElem?_map,hq];rfl
    (repeat' (first|with_reducible refine And.intro ?_ ?_|(with_reducible intro hc;(try simp only [zz] at hc);try exact ct)|((conv=>whnf);first|(with_reducible first|refine And.intro ?_ ?_|intro hx|apply Val.via|apply Qk.via)|exact Is.mk rfl rfl|refine sp ?_|refine vx (by (first|exact vat_hnd hk (mul2 rfl rfl)|exact Qa vagg_op hla (idxl3 hlc)|exact Qa vagg_op hla (idxl3' hlc)|exact Qa vagg_int hp (Q4 rfl rfl)|exact Qa vagg_int hp ((Nat.zero_add _).trans (Q4 rfl rfl))|exact Qa rfl rfl rfl|rfl)) ?_|refine dY ?_|(first|(refine Xc.mk (Qc.inl Tryz.func12 rfl ?_))|refine cl (hnc _ rfl) ?_)|refine sq ?_)))
    (all_goals try exact om)
    focus (refine Qg.mk ⟨j+1,(by omega),?_,ka [] ?_ ?_⟩;(first|omega|(simp only;omega));all_goals (repeat' (first|exact rz|refine And.intro ?_ ?_|refine Exists.intro _ (And.intro rfl ?_)|refine ro ?_|refine Qe.cons ?_ ?_|(exact Qi.eq (Q9 (by omega)) (Qb _))|exact rv)))
   ·obtain rfl:j=ps.length:=by omega
    (repeat' (first|with_reducible refine And.intro ?_ ?_|(with_reducible intro hc;(try simp only [zz] at hc);try exact ct)|((conv=>whnf);first|(with_reducible first|refine And.intro ?_ ?_|intro hx|apply Val.via|apply Qk.via)|exact Is.mk rfl rfl|refine sp ?_|refine vx (by (first|exact vat_hnd hk (mul2 rfl rfl)|exact Qa vagg_op hla (idxl3 hlc)|exact Qa vagg_op hla (idxl3' hlc)|exact Qa vagg_int hp (Q4 rfl rfl)|exact Qa vagg_int hp ((Nat.zero_add _).trans (Q4 rfl rfl))|exact Qa rfl rfl rfl|rfl)) ?_|refine dY ?_|fail|refine sq ?_)))
    (all_goals try exact om)
    focus (refine Qg.mk ⟨i+1,(by omega),?_,ka [] ?_ ?_⟩;(first|omega|(simp only;omega));all_goals (repeat' (first|exact rz|refine And.intro ?_ ?_|refine Exists.intro _ (And.intro rfl ?_)|refine ro ?_|refine Qe.cons ?_ ?_|(exact Qi.eq (Q9 (by omega)) (Qb _))|exact rv)))
  ·obtain rfl:i=S.length:=by omega
   (repeat' (first|with_reducible refine And.intro ?_ ?_|(with_reducible intro hc;(try simp only [zz] at hc);try exact ct)|((conv=>whnf);first|(with_reducible first|refine And.intro ?_ ?_|intro hx|apply Val.via|apply Qk.via)|exact Is.mk rfl rfl|refine sp ?_|refine vx (by (first|exact vat_hnd hk (mul2 rfl rfl)|exact Qa vagg_op hla (idxl3 hlc)|exact Qa vagg_op hla (idxl3' hlc)|exact Qa vagg_int hp (Q4 rfl rfl)|exact Qa vagg_int hp ((Nat.zero_add _).trans (Q4 rfl rfl))|exact Qa rfl rfl rfl|rfl)) ?_|refine dY ?_|fail|refine sq ?_)))
   (all_goals try exact om)
   all_goals exact Qg.mk rfl
open Go Go.ChangeShapes Go.WideShapes Go.RowKit
def Old (w:World):Nat→Prop:=fun k=>k < w.heap.size
def noName:Nat→Option (Nat×Nat):=fun _=>none
theorem open_roB {P:Program} {H:Type} {enc:TypeId×Value→H} {W:World} {base:Nat} {t e:TypeId} {v:Value} {d:DataW H} {p:List MemPlace} (ut:P.underlying t=some (.slice e)) (ue:P.underlying e=some (.int .u8)) (hc:P.cellsOf e=1)
  (hval:Value.okWide P W .any base t v) (h:DataW.Trod enc P W 0 (fun _=>true) true t v d p): ∃ l:List UInt8,l.length≤maxLen∧Qf W (Old W) noName (roB l) v:=by
 obtain ⟨a1,len,cap,rfl⟩:=okWide_slice ut hval
 obtain ⟨fuel,hf⟩:=h
 rcases open_ints ut ue hc hf with ⟨hcs,hx⟩|⟨a,len',cap',zs,hcs,_,hl,hm,hz,hx,hcell,hwz⟩
 ·simp [Value.cells] at hcs
  obtain ⟨rfl,rfl,rfl⟩:=hcs
  exact ⟨[],Nat.zero_le _,.ro0⟩
 ·simp [Value.cells] at hcs
  obtain ⟨rfl,rfl,rfl⟩:=hcs
  simp only [if_true] at hz
  refine ⟨(zs.take len).map fun n=>UInt8.ofNat n.toNat,by simp;omega,?_⟩
  have hlen:((zs.take len).map fun n=>UInt8.ofNat n.toNat).length=len:=by simp;omega
  unfold roB
  rw [hlen]
  by_cases h0:len=0
  ·subst h0
   exact .ro0
  ·obtain ⟨ab,ao,spot⟩:=a
   have hspot:spot=none:=by simpa [Addr.add] using World.cell?_spot (hcell 0 (by omega))
   subst hspot
   have hZ:Old W ab:=by
    have:=hcell 0 (by omega)
    unfold Old
    simp only [Addr.add,World.cell?] at this
    cases hh:W.heap[ab]? with
    | none=>simp [hh] at this
    | some o=>exact (Array.getElem?_eq_some_iff.1 hh).1
   refine .ro (cs:=(zs.take len).map (Value.int .u8)) hZ hl (by simp) (fun i hi=> ?_) (fun i u c hu hc=> ?_)
   ·simp only [List.length_map,List.length_take] at hi
    have:=hcell i (by omega)
    rw [Addr.add_lit] at this
    rw [this,List.getElem?_map,List.getElem?_take_of_lt (by omega),List.getD_eq_getElem?_getD,List.getElem?_eq_getElem (show i < zs.length by omega)]
    rfl
   ·have hi:i < len:=by
     have:=(List.getElem?_eq_some_iff.1 hc).1
     simp at this
     omega
    rw [List.getElem?_map,List.getElem?_map,List.getElem?_take_of_lt hi,List.getElem?_eq_getElem (show i < zs.length by omega)] at hu
    rw [List.getElem?_map,List.getElem?_take_of_lt hi,List.getElem?_eq_getElem (show i < zs.length by omega)] at hc
    simp only [Option.map_some,Option.some.injEq] at hu hc
    subst hu hc
    have hb:=range_u8 hwz i
    rw [List.getElem?_eq_getElem (show i < zs.length by omega)] at hb
    simp only [Option.getD_some] at hb
    have:((UInt8.ofNat (zs[i]'(by omega)).toNat).toNat:Int)=zs[i]'(by omega):=by
     simp only [UInt8.toNat_ofNat']
     omega
    unfold bV
    rw [this]
    exact .sc rfl
end Go.Proofs.YtpbiblhkcomekaaGreat
namespace Go.Proofs.YtpbiblhkcomekaaGreat.lawCodeBalanced
open Go.ChangeShapes Go.WideShapes Go.ChangeAt Go.RowKit Go.Joins
open Go.ChangeMaps (open_string shut_string)
set_option linter.unusedSimpArgs false
set_option linter.unusedVariables false
theorem own:ownKnob Tryz.prog.godebug=none:=by kernel_rfl
theorem laidOut:laidOutB Tryz.prog=true:=by kernel_rfl
theorem u8cells:Tryz.prog.cellsOf 5=1:=by kernel_rfl
set_option maxRecDepth 100000 in
theorem lifted (os:Os) (started:os.Started) (H:Type) (enc:TypeId×Value→H) :
  ReturnsInHanded {} Tryz.checked os 3 .any (Rows.codeBalancedSpec.pre6 enc Tryz.prog Tryz.f3 Rows.codeBalancedRow.domain false) (Rows.codeBalancedSpec.post enc Tryz.prog Tryz.f3 false true false false):=by
 refine returnsInHanded_of_change (C:=Tryz.checked) own started (by kernel_rfl) Tryz.func3
  (ChangeSpec.witness6 (enc:=enc) (C:=Tryz.checked) false ⟨#[],#[.slice none 0 0],[]⟩ 8 (by kernel_rfl) (by kernel_rfl) (by kernel_rfl) (by kernel_rfl)) ?_
 intro W base args ds gs before hval0 hW hcnd _
 have hval: ∀ (j:Nat) t v,Tryz.f3.params[j]? = some t→args[j]? = some v→Value.okWide Tryz.prog W .any base t v:=hval0
 have hW':=hW
 obtain ⟨p,q,hA0,hV,rfl,hfz,hnd⟩:=hW
 have hA:DataW.TrodAll enc Tryz.prog W 0 (fun _=>true) true Tryz.f3.params.toList args.toList ds p:=hA0
 rw [Tryz.params3] at hA hval
 obtain ⟨v0,vs0,d0,ds0,p0,q0,hargs,rfl,rfl,h0,r0⟩:=trodAll_cons hA
 obtain ⟨rfl,rfl,rfl⟩:=trodAll_nil r0
 obtain rfl:args= #[v0]:=by cases args;simp_all
 obtain ⟨rfl,rfl⟩:=trodVars_none hV
 have k0:=h0
 have lt0: ∀ x∈p0,x.block < W.heap.size:=by obtain ⟨m,hm⟩:=k0;exact DataW.trod_lt m _ _ _ hm
 have hwalk:Calls Tryz.prog 3 #[v0] W fun e w'=>e= .returned (.bool true)∧Below W.heap.size W w':=by
  obtain ⟨l0,hl00,hr0⟩:=open_roB Tryz.underlying22 Tryz.underlying5 u8cells (hval 0 22 v0 rfl rfl) h0
  have hl0:l0.length≤9223372036854775807:=by unfold maxLen at hl00;exact hl00
  exact Qc.law (En l0) W #[v0] (Pw.cons hr0 Pw.nil) (fun _ _ _ _ _ _=>trivial)
 clear hA0 hval0
 refine hwalk.mono fun e W' ⟨he,bel⟩=> ?_
 subst he
 exact ⟨_,rfl,_,_,_,[],_,[],hW',trodAll_mk1 (shut_bool Tryz.underlying4 _),(trodAll_cons_mk (Below.trod laidOut (by kernel_rfl) (of_decide_eq_true (by kernel_rfl)) k0 bel lt0) trodAll_mk0),rfl,bel.frame _,fun h=>by cases h⟩
theorem over:Rows.codeBalancedRow.holds Tryz.pinned (OpenSpec.ofChange Rows.codeBalancedSpec) :=
 OpenClaim.holds_of_wide 3 Tryz.f3 rfl rfl rfl rfl rfl rfl rfl ⟨rfl,rfl,rfl,rfl,rfl⟩ rfl rfl rfl rfl rfl (by kernel_rfl) Tryz.func3 (by kernel_rfl)
  (of_decide_eq_true (by kernel_rfl)) (by unfold Func.isWrapper;first|(rw [if_pos (by decide+kernel)];kernel_rfl)|(rw [if_neg (by decide+kernel)];exact ⟨rfl,rfl⟩))
  (fun os started H enc _=>lifted os started H enc)
theorem proved:Rows.CodeBalancedSaid:=over
#print axioms proved
end Go.Proofs.YtpbiblhkcomekaaGreat.lawCodeBalanced
