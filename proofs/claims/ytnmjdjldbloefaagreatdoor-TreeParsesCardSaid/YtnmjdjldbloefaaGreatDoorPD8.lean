import Derived.Test.YtnmjdjldbloefaaGreatDoorPE5
import Derived.Test.YtnmjdjldbloefaaGreatDoorPD7
import Derived.Test.YtnmjdjldbloefaaGreatDoorPD6
import Derived.Test.YtnmjdjldbloefaaGreatDoorPDA
import Derived.Test.YtnmjdjldbloefaaGreatDoorPU1
import Derived.Test.YtnmjdjldbloefaaGreatDoorPU6
import Derived.Test.YtnmjdjldbloefaaGreatDoorPH0
import Derived.Test.YtnmjdjldbloefaaGreatDoorPH6
import Derived.Test.YtnmjdjldbloefaaGreatDoorPE3
import Derived.ProofKit
import Derived.OpenShut
import Derived.Test.YtnmjdjldbloefaaGreatDoorPU7
import Derived.Test.YtnmjdjldbloefaaGreatDoorCards
import Derived.Test.YtnmjdjldbloefaaGreatDoorTie
import Derived.ShutString
import Derived.ChangeOld
import Derived.Below
import Derived.Lib.SmallJoins
import Derived.Deep.DeepHandedRow
import Derived.Lib.LaidTab
/- The law TreeParses, walked. -/
namespace Go.Proofs.YtnmjdjldbloefaaGreatDoor
open Go Go.RowKit
set_option linter.unusedSimpArgs false
set_option linter.unusedVariables false
set_option maxRecDepth 100000
set_option maxHeartbeats 8000000
theorem cntMem: ∀ {l:List Nd} {k:Nd},k∈l→cntN k≤cntL l
 | a::r,k,h=>by
  rw [cntL]
  rcases List.mem_cons.1 h with rfl|h
  ·omega
  ·have:=cntMem h;omega
theorem lsame_call: ∀ (f:Nat) (n:Nd),cntN n≤f→f≤1000000000→ ∀ H,Qc Tryz.prog 10 [nV n,nV n] H (fun v K=>v= .sc (.bool true)∧K=H)
 | 0,.mk o t m ks,h,_,H=>by rw [cntN] at h;omega
 | f+1,.mk o t m ks,h,hf,H=>by
  rw [cntN] at h
  have hlen:=Zf ks
  have ih:=fun (k:Nd) (hk:k∈ks) (H:Heap)=>lsame_call f k (by have:=cntMem hk;omega) (by omega) H
  have hk:True:=trivial
  refine Qc.pure (by simp [Qk]) (Qb _) ?_
  rw [nV,cellsN]
  refine Qc.go Tryz.func10 rfl ?_
  (repeat' (first|with_reducible refine And.intro ?_ ?_|(with_reducible intro hc;(try simp only [zz] at hc);try exact ct)|((conv=>whnf);first|(with_reducible first|refine And.intro ?_ ?_|intro hx|apply Val.via|apply Qi.via)|exact Is.mk rfl rfl|refine sp ?_|refine vx (by (first|exact Za _|exact Q6 hk rfl|exact Qg hk rfl|exact Qv rfl rfl|exact Qo rfl rfl|exact Qa rfl rfl rfl|rfl)) ?_|refine dY ?_|fail|refine sq ?_)))
  (all_goals try exact om)
  (refine Ji.mk (GWP.loopB [] (fun (i:Nat)=>i≤ks.length) (fun i=> [(37,iV i)]) (fun _=> []) 2 (fun i=>ks.length - i) 0 (Nat.zero_le _) ?_);(conv=>whnf);refine And.intro ?_ ?_)
  ·focus (refine ka [] ?_ ?_;all_goals (repeat' (first|exact rz|refine And.intro ?_ ?_|refine Exists.intro _ (And.intro rfl ?_)|refine ro ?_|refine Qu.cons ?_ ?_|exact Qn.eq rfl (Qb _)|exact rv)))
  rintro i g1
  simp only at g1 ⊢
  clear hk
  by_cases hil:i < ks.length
  ·obtain ⟨kd,hk⟩:=Ze hil
   have kc:=fun H=>ih kd (List.mem_of_getElem? hk) H
   obtain ⟨op,tx,nm,kk⟩:=kd
   simp only [nV,cellsN] at kc
   (repeat' (first|with_reducible refine And.intro ?_ ?_|(with_reducible intro hc;(try simp only [zz] at hc);try exact ct)|((conv=>whnf);first|(with_reducible first|refine And.intro ?_ ?_|intro hx|apply Val.via|apply Qi.via)|exact Is.mk rfl rfl|refine sp ?_|refine vx (by (first|exact Za _|exact Q6 hk rfl|exact Qg hk rfl|exact Qv rfl rfl|exact Qo rfl rfl|exact Qa rfl rfl rfl|rfl)) ?_|refine dY ?_|refine cl (kc _) ?_|refine sq ?_)))
   (all_goals try exact om)
   focus (refine Qf.mk ⟨i+1,(by omega),?_,ka [] ?_ ?_⟩;(first|omega|(simp only;omega));all_goals (repeat' (first|exact rz|refine And.intro ?_ ?_|refine Exists.intro _ (And.intro rfl ?_)|refine ro ?_|refine Qu.cons ?_ ?_|exact Qn.eq (Qz (by omega)) (Qb _)|exact rv)))
  ·obtain rfl:i=ks.length:=by omega
   (repeat' (first|with_reducible refine And.intro ?_ ?_|(with_reducible intro hc;(try simp only [zz] at hc);try exact ct)|((conv=>whnf);first|(with_reducible first|refine And.intro ?_ ?_|intro hx|apply Val.via|apply Qi.via)|exact Is.mk rfl rfl|refine sp ?_|refine vx (by rfl) ?_|refine dY ?_|fail|refine sq ?_)))
   (all_goals try exact om)
   all_goals exact Qf.mk rfl
theorem E6 {g:Sg} (h:Yu g):(Wh g).length≤5001:=by
 obtain ⟨c,x,h1,_,_,h4⟩:=h.2
 rw [h1,List.length_cons]
 omega
theorem mkPr {n:Nd} (hL: ∀ g∈sgN n,Yu g) (hs:(sgN n).length+3≤9*cntN n) (h14:cntN n≤14000) (hne:sgN n≠ []) (hc:PrC n):Wn n :=
 ⟨hne,by have:=joinG_len hL;unfold PT;omega,hc⟩
theorem sgN_neE {d:Nat} {n:Nd} (h:FitE d n):sgN n≠ []:=fun e=>tk_ne h (by unfold tk;rw [e];rfl)
theorem prE: ∀ (N:Nat) (n:Nd) (d:Nat),cntN n≤N→cntN n≤14000→FitE d n→Wn n
 | 0,n,d,h,_,_=>by have:=Bf n;omega
 | N+1,n,d,hcn,h14,hf=>by
  have ih: ∀ k d,cntN k < cntN n→FitE d k→Wn k:=fun k d hk hk2=>prE N k d (by omega) (by omega) hk2
  refine mkPr (lexE hf) (W1 hf) h14 (sgN_neE hf) ?_
  have hLx:=lexE hf
  cases hf with
  | num hv=>exact pr8 hv
  | text h hl=>exact pr9 (by omega)
  | nil=>exact pr10
  | var h=>exact pr11 _
  | @call _ x ks h h16 hk =>
   have hc:cntN (.mk 12 x 0 ks)=1+cntL ks:=by rw [cntN]
   have hl:=Zf ks
   have hx:x.length≤5001:=E6 h
   exact pr12 x (by omega) ks (by omega) (fun k hm=>ih k _ (Jh hm) (hk k hm))
  | @bin _ da db x a b hx ha fa hb fb =>
   have ca:=Jh (op:=13) (tx:=x) (nm:=0) (ks:= [a,b]) (k:=a) (by simp)
   have cb:=Jh (op:=13) (tx:=x) (nm:=0) (ks:= [a,b]) (k:=b) (by simp)
   have hxl:x.length≤5001:=by
    have:=E6 (hLx (opG x) (by rw [Ua];simp))
    rw [Df] at this
    exact this
   exact pr13 x (by omega) a b hx (Dg fa) (Dg fb) (ih a _ ca fa) (ih b _ cb fb)
  | @un _ dk x k hx hd hk fk =>
   have ck:=Jh (op:=14) (tx:=x) (nm:=0) (ks:= [k]) (k:=k) (by simp)
   have pk:=ih k _ ck fk
   have hxl:x.length≤5001:=by
    have:=E6 (hLx (opG x) (by rw [Ct];simp))
    rw [Df] at this
    exact this
   have hi:=sgI_len (r:=5) pk
   exact pr14 x (by omega) k (Dg fk) pk (by omega)
theorem prS: ∀ (N:Nat) (n:Nd) (i d:Nat),cntN n≤N→cntN n≤14000→FitS i d n→Wn n
 | 0,n,i,d,h,_,_=>by have:=Bf n;omega
 | N+1,n,i,d,hcn,h14,hf=>by
  have ih: ∀ k i d,cntN k < cntN n→FitS i d k→Wn k:=fun k i d hk hk2=>prS N k i d (by omega) (by omega) hk2
  have he: ∀ k d,cntN k < cntN n→FitE d k→Wn k:=fun k d hk hk2=>prE 14000 k d (by omega) (by omega) hk2
  have hsz:=size_S hf
  have hLx:=lexFS hf
  cases hf with
  | @set _ x n1 h hn =>
   have hx:x.length≤5001:=E6 h
   have pk:=he _ _ (Jh (by simp)) hn
   exact mkPr hLx hsz h14 (by rw [Q2];simp [X4]) (pr3 x (by omega) _ pk)
  | do_ hn =>
   have pk:=he _ _ (Jh (by simp)) hn
   exact mkPr hLx hsz h14 (by rw [Q2];simp [X4]) (pr4 _ pk)
  | if2 hn hb=>exact mkPr hLx hsz h14 (by rw [Q2];simp [X4]) (pr52 _ _ (he _ _ (Jh (by simp)) hn) (ih _ _ _ (Jh (by simp)) hb))
  | if3 hn hb hc=>exact mkPr hLx hsz h14 (by rw [Q2];simp [X4]) (pr53 _ _ _ (he _ _ (Jh (by simp)) hn) (ih _ _ _ (Jh (by simp)) hb) (ih _ _ _ (Jh (by simp)) hc))
  | while_ hn hb=>exact mkPr hLx hsz h14 (by rw [Q2];simp [X4]) (pr6 _ _ (he _ _ (Jh (by simp)) hn) (ih _ _ _ (Jh (by simp)) hb))
  | stop=>exact mkPr hLx hsz h14 (by rw [Q2];simp [X4]) pr7
  | @block _ ks hd hk =>
   have hc:cntN (.mk 2 [] 0 ks)=1+cntL ks:=by rw [cntN]
   have hl:=Zf ks
   exact mkPr hLx hsz h14 (by rw [Q2];simp [X4]) (pr2 ks (by omega) fun k hm=>ih k _ _ (Jh hm) (hk k hm))
theorem prO {n:Nd} (hI:ItoaOk) (hQ:QuoteOk) (h14:cntN n≤14000) (h:FitO n):Wn n:=by
 have hLx:=lexO h
 have hsz:=(sgO hI hQ h14 h).2
 obtain ⟨x,ys,b,rfl,hx,hy,hb⟩:=h
 have hc:cntN (.mk 1 x 0 (ys.map (fun y=>Nd.mk 11 y 0 [])++ [b]))=1+cntL (ys.map (fun y=>Nd.mk 11 y 0 []))+cntN b:=by
  rw [cntN,cntL_app,cntL,cntL]
  omega
 have hl:=Zf (ys.map (fun y=>Nd.mk 11 y 0 []))
 have hxl:x.length≤5001:=E6 hx
 refine mkPr hLx hsz h14 (by rw [Q2];simp [X4]) (pr1 x (by omega) _ (by omega) (fun k hm=> ?_) b (prS 14000 b 1 0 (by omega) (by omega) hb))
 have hm2:=cntMem hm
 obtain ⟨y,hy2,rfl⟩:=List.mem_map.1 hm
 exact prE 14000 _ 0 (by omega) (by omega) (.var (hy y hy2))
theorem prScript (hI:ItoaOk) (hQ:QuoteOk) {ks:List Nd} (h14:cntN (.mk 0 [] 0 ks)≤14000) (h: ∀ k∈ks,FitO k):PrC (.mk 0 [] 0 ks):=by
 have hc:cntN (.mk 0 [] 0 ks)=1+cntL ks:=by rw [cntN]
 have hl:=Zf ks
 exact pr0 ks (by omega) fun k hm=>prO hI hQ (by have:=cntMem hm;omega) (h k hm)
theorem lenB (t:List UInt8):(t.map bV).length=t.length:=by simp
theorem Qr.frzRes {P:Program} {o:Oper} {ts:List VV} {H H1:Heap} {K:VV→Heap→Prop} {b n z:Nat} {vs:List VV} (h:Qr P o ts H (fun v H'=>v= .gs b n z∧H'=H1)) (hg:H1.get b=some (.opt vs)) (hl:vs.length=n*z) (k:K (.ro n vs) (H1.del b)):Qr P o ts H K:=⟨⟨fun B M Z ρ a w rr KK QE g1 g2 g3=>h.out.out B M Z ρ a w rr KK QE g1 g2 fun v' v H' Z' ρ' w' q e1 r1 v1=>by
 obtain ⟨rfl,rfl⟩:=q
 rcases gs_view hg hl B M Z' ρ' w' v' r1 v1 with hu|⟨k',N,hk,hu⟩
 ·exact g3 v' (.ro n vs) (H'.del b) Z' ρ' w' k e1 (r1.del b) hu
 ·exact g3 v' (.ro n vs) (H'.del b) (fun j=>Z' j∨j=k') ρ' w' k ⟨e1.nle,e1.rold,fun j hj=> .inl (e1.zsub j hj),e1.rsub,e1.keep,e1.size,fun j hj=>hj.elim (e1.znew j) fun e=> .inr (.inr (e ▸ r1.ownB hg rfl hk))⟩ (r1.freezeB hg hk) hu⟩⟩
theorem Qr.ownG {P:Program} {o:Oper} {ts:List VV} {H H1:Heap} {K:VV→Heap→Prop} {b:Nat} {t:List UInt8} (h:Qr P o ts H (fun v H'=>v= .gs b (0+t.length) 1∧H'=H1)) (hg:H1.get b=some (.opt ([]++t.map bV))) (k:K (roB t) (H1.del b)):Qr P o ts H K:=by
 refine Qr.frzRes h hg (by simp) ?_
 have e:VV.ro (0+t.length) ([]++t.map bV)=roB t:=by rw [Nat.zero_add,List.nil_append];rfl
 rw [e]
 exact k
theorem parsesBad (t:List UInt8) (h:(Ym t).2≠0):(Ym t).1=nd0:=by
 unfold Ym at h ⊢
 split at h
 ·rfl
 ·rename_i l hs
  split
  ·rfl
  ·rename_i h1
   rw [if_neg h1] at h
   split
   ·rfl
   ·rename_i h2
    rw [if_neg h2] at h
    exact absurd rfl h
theorem treeParses_walk (hI:ItoaOk) (hQ:QuoteOk) (t:List UInt8):Qc Tryz.prog 3 [roB t] ⟨[],0⟩ (fun v _=>v= .sc (.bool true)):=by
 have kl:=fun H=>lives20_call H
 by_cases ht:t.length≤1200
 case neg =>
  refine Qc.go Tryz.func3 rfl ?_
  (repeat' (first|with_reducible refine And.intro ?_ ?_|(with_reducible intro hc;(try simp only [zz] at hc);try exact ct)|((conv=>whnf);first|(with_reducible first|refine And.intro ?_ ?_|intro hx|apply Val.via|apply Qi.via)|exact Is.mk rfl rfl|refine sp ?_|refine vx (by (first|exact Za _|exact Q6 hk rfl|exact Qg hk rfl|exact Qv rfl rfl|exact Qo rfl rfl|exact Qa rfl rfl rfl|rfl)) ?_|refine cl (kl _) ?_|refine sq ?_)))
  (all_goals try exact om)
  all_goals exact Qf.mk rfl
 have hk:True:=trivial
 have kp:=fun H=>parse_call t (by omega) H
 have kr:=fun H=>parseD_of bl_callD t (by omega) H
 rw [parseD_eq] at kr
 have hcnt:=parseT_cnt t
 have ks0:=fun H=>lsame_call 14000 (Ym t).1 hcnt (by omega) H
 by_cases he:(Ym t).2=0
 case neg =>
  have hb:=parsesBad t he
  rw [hb,show nV nd0= .ag [iV 0,Qe [],iV 0,.ro 0 []] by rw [nd0,nV,cellsN,rowsN];rfl] at kp kr ks0
  generalize (Ym t).2=e at *
  refine Qc.go Tryz.func3 rfl ?_
  (repeat' (first|with_reducible refine And.intro ?_ ?_|(with_reducible intro hc;(try simp only [zz] at hc);try exact ct)|((conv=>whnf);first|(with_reducible first|refine And.intro ?_ ?_|intro hx|apply Val.via|apply Qi.via)|exact Is.mk rfl rfl|(refine Qs (Qr.ownG (t:=t) (Qr.growS rfl sty_b (d:= .slice 5) Tryz.underlying22 (by intro k h;cases h) rfl (m:=t.length) (l:=t.map bV) (vs:= []) (Yv t _) (one_map t) rfl rfl (by omega) (by omega) ⟨rfl,rfl⟩) rfl ?_))|refine sp ?_|refine vx (by (first|exact Za _|exact Q6 hk rfl|exact Qg hk rfl|exact Qv rfl rfl|exact Qo rfl rfl|exact Qa rfl rfl rfl|rfl)) ?_|refine dY ?_|(first|exact lenB t|refine cl (kl _) ?_|refine cl (kp _) ?_|refine cl (kr _) ?_|refine cl (ks0 _) ?_)|refine sq ?_)))
  (all_goals try exact om)
  all_goals exact Qf.mk rfl
 obtain ⟨ks,h1,h2,h3,h4⟩:=back_fit ht he
 rw [h1] at hcnt h3 ks0
 rw [h1,he] at kp kr
 have kpr:=fun H=>print_call hI hQ hcnt h2 h3 H
 have kpd:=fun H=>prScript hI hQ hcnt h2 H
 unfold PT at kpd
 generalize joinG (sgN (.mk 0 [] 0 ks))=p at *
 simp only [nV,cellsN] at kp kr kpr kpd ks0
 refine Qc.go Tryz.func3 rfl ?_
 (repeat' (first|with_reducible refine And.intro ?_ ?_|(with_reducible intro hc;(try simp only [zz] at hc);try exact ct)|((conv=>whnf);first|(with_reducible first|refine And.intro ?_ ?_|intro hx|apply Val.via|apply Qi.via)|exact Is.mk rfl rfl|(refine Qs (Qr.ownG (t:=t) (Qr.growS rfl sty_b (d:= .slice 5) Tryz.underlying22 (by intro k h;cases h) rfl (m:=t.length) (l:=t.map bV) (vs:= []) (Yv t _) (one_map t) rfl rfl (by omega) (by omega) ⟨rfl,rfl⟩) rfl ?_))|refine sp ?_|refine vx (by (first|exact Za _|exact Q6 hk rfl|exact Qg hk rfl|exact Qv rfl rfl|exact Qo rfl rfl|exact Qa rfl rfl rfl|rfl)) ?_|refine dY ?_|(first|exact lenB t|refine cl (kl _) ?_|refine cl (kp _) ?_|refine cl (kr _) ?_|refine cl (ks0 _) ?_|refine cl (kpr _) ?_|refine cl (kpd _) ?_)|refine sq ?_)))
 (all_goals try exact om)
 all_goals exact Qf.mk (congrArg (fun b=>VV.sc (.bool b)) (beq_self_eq_true _))
open Go Go.ChangeShapes Go.WideShapes Go.RowKit
def Old (w:World):Nat→Prop:=fun k=>k < w.heap.size
def noName:Nat→Option (Nat×Nat):=fun _=>none
theorem open_roB {P:Program} {H:Type} {enc:TypeId×Value→H} {W:World} {base:Nat} {t e:TypeId} {v:Value} {d:DataW H} {p:List MemPlace} (ut:P.underlying t=some (.slice e)) (ue:P.underlying e=some (.int .u8)) (hc:P.cellsOf e=1)
  (hval:Value.okWide P W .any base t v) (h:DataW.Trod enc P W 0 (fun _=>true) true t v d p): ∃ l:List UInt8,l.length≤maxLen∧Qm W (Old W) noName (roB l) v:=by
 obtain ⟨a1,len,cap,rfl⟩:=okWide_slice ut hval
 obtain ⟨fuel,hf⟩:=h
 rcases open_ints ut ue hc hf with ⟨hcs,hx⟩|⟨a,len',cap',zs,hcs,_,hl,hm,hz,hx,hcell,hwz⟩
 ·simp [Value.cells] at hcs
  obtain ⟨rfl,rfl,rfl⟩:=hcs
  exact ⟨[],Nat.zero_le _,.ro0⟩
 ·simp [Value.cells] at hcs
  obtain ⟨rfl,rfl,rfl⟩:=hcs
  simp only [if_true] at hz
  refine ⟨(zs.take len).map fun n=>UInt8.ofNat n.toNat,by simp;omega,?_⟩
  have hlen:((zs.take len).map fun n=>UInt8.ofNat n.toNat).length=len:=by simp;omega
  unfold roB
  rw [hlen]
  by_cases h0:len=0
  ·subst h0
   exact .ro0
  ·obtain ⟨ab,ao,spot⟩:=a
   have hspot:spot=none:=by simpa [Addr.add] using World.cell?_spot (hcell 0 (by omega))
   subst hspot
   have hZ:Old W ab:=by
    have:=hcell 0 (by omega)
    unfold Old
    simp only [Addr.add,World.cell?] at this
    cases hh:W.heap[ab]? with
    | none=>simp [hh] at this
    | some o=>exact (Array.getElem?_eq_some_iff.1 hh).1
   refine .ro (cs:=(zs.take len).map (Value.int .u8)) hZ hl (by simp) (fun i hi=> ?_) (fun i u c hu hc=> ?_)
   ·simp only [List.length_map,List.length_take] at hi
    have:=hcell i (by omega)
    rw [Addr.add_lit] at this
    rw [this,List.getElem?_map,List.getElem?_take_of_lt (by omega),List.getD_eq_getElem?_getD,List.getElem?_eq_getElem (show i < zs.length by omega)]
    rfl
   ·have hi:i < len:=by
     have:=(List.getElem?_eq_some_iff.1 hc).1
     simp at this
     omega
    rw [List.getElem?_map,List.getElem?_map,List.getElem?_take_of_lt hi,List.getElem?_eq_getElem (show i < zs.length by omega)] at hu
    rw [List.getElem?_map,List.getElem?_take_of_lt hi,List.getElem?_eq_getElem (show i < zs.length by omega)] at hc
    simp only [Option.map_some,Option.some.injEq] at hu hc
    subst hu hc
    have hb:=range_u8 hwz i
    rw [List.getElem?_eq_getElem (show i < zs.length by omega)] at hb
    simp only [Option.getD_some] at hb
    have:((UInt8.ofNat (zs[i]'(by omega)).toNat).toNat:Int)=zs[i]'(by omega):=by
     simp only [UInt8.toNat_ofNat']
     omega
    unfold bV
    rw [this]
    exact .sc rfl
theorem treeParses_fin (t:List UInt8):Qc Tryz.prog 3 [roB t] ⟨[],0⟩ (fun v _=>v= .sc (.bool true)):=treeParses_walk itoa_ok quote_ok t
end Go.Proofs.YtnmjdjldbloefaaGreatDoor
namespace Go.Proofs.YtnmjdjldbloefaaGreatDoor.lawTreeParses
open Go.ChangeShapes Go.WideShapes Go.ChangeAt Go.RowKit Go.Joins
open Go.ChangeMaps (open_string shut_string)
set_option linter.unusedSimpArgs false
set_option linter.unusedVariables false
theorem own:ownKnob Tryz.prog.godebug=none:=by kernel_rfl
theorem laidOut:laidOutB Tryz.prog=true:=by kernel_rfl
theorem u8cells:Tryz.prog.cellsOf 5=1:=by kernel_rfl
theorem gTab : Tryz.prog.globalNamed "internal/strconv.uint64pow10" = some 1 := by kernel_rfl
theorem gTabType:(Tryz.prog.globals[1]?).map (·.type)=some 162:=by kernel_rfl
theorem cellsPow:Tryz.prog.cellsOf 162=20:=by kernel_rfl
theorem cellsU:Tryz.prog.cellsOf 152=1:=by kernel_rfl
theorem E8 {P:Program} {W:World} {x:String×DataW Unit} {rest:List (String×DataW Unit)} (h:laidMet P (x::rest) W):laidMet P rest W:=by
 obtain ⟨ps,⟨g',t',cs,fuel,p,q,hg',ht',hvar,hd,hr,rfl⟩,hn,hf⟩:=h
 exact ⟨q,hr,(List.nodup_append.1 hn).2.1,fun b off hm=>hf b off (List.mem_append_right _ hm)⟩
theorem table {W:World} (h:laidMetH Tryz.prog Rows.treeParsesRow.laid W):Tabs W :=
 Lib.tabIs_of_head (rest:= []) gTab gTabType Tryz.underlying162 Tryz.underlying152 cellsU cellsPow (E8 (E8 ((show laidMet Tryz.prog Rows.treeParsesRow.laid W from h))))
theorem glob {W:World} (h:Tabs W):Glob W (fun _=>False):=fun w' a b c d e=>Lib.tabBelow_of_tabIs h w' ⟨a,b,c,d,fun k hk=>e k hk id⟩
set_option maxRecDepth 100000 in
theorem contract (H:Type) (enc:TypeId×Value→H) (W:World) (base:Nat) (args:Array Value) (ds gs:List (DataW H)) (before:List MemPlace)
  (hval: ∀ (j:Nat) t v,Tryz.f3.params[j]? = some t→args[j]? = some v→Value.okWide Tryz.prog W .any base t v)
  (hW:DataW.Whole enc Tryz.prog Tryz.f3.params.toList Rows.treeParsesSpec.vars false W args.toList ds gs before) (hL:laidMetH Tryz.prog Rows.treeParsesRow.laid W) :
  Calls Tryz.prog 3 args W fun e W'=> ∃ v,e= .returned v∧Rows.treeParsesSpec.post enc Tryz.prog Tryz.f3 false true false false W args v W':=by
 have hW':=hW
 obtain ⟨p,q,hA0,hV,rfl,hfz,hnd⟩:=hW
 have hA:DataW.TrodAll enc Tryz.prog W 0 (fun _=>true) true Tryz.f3.params.toList args.toList ds p:=hA0
 rw [Tryz.params3] at hA hval
 obtain ⟨v0,vs0,d0,ds0,p0,q0,hargs,rfl,rfl,h0,r0⟩:=trodAll_cons hA
 obtain ⟨rfl,rfl,rfl⟩:=trodAll_nil r0
 obtain rfl:args= #[v0]:=by cases args;simp_all
 obtain ⟨rfl,rfl⟩:=trodVars_none hV
 have k0:=h0
 have lt0: ∀ x∈p0,x.block < W.heap.size:=by obtain ⟨m,hm⟩:=k0;exact DataW.trod_lt m _ _ _ hm
 have hwalk:Calls Tryz.prog 3 #[v0] W fun e w'=>e= .returned (.bool true)∧Below W.heap.size W w':=by
  obtain ⟨l0,hl00,hr0⟩:=open_roB Tryz.underlying22 Tryz.underlying5 u8cells (hval 0 22 v0 rfl rfl) h0
  have hl0:l0.length≤9223372036854775807:=by unfold maxLen at hl00;exact hl00
  exact Qc.law (treeParses_fin l0) W #[v0] (Pw.cons hr0 Pw.nil) (glob (table hL))
 clear hA0
 refine hwalk.mono fun e W' ⟨he,bel⟩=> ?_
 subst he
 exact ⟨_,rfl,_,_,_,[],_,[],hW',trodAll_mk1 (shut_bool Tryz.underlying4 _),(trodAll_cons_mk (Below.trod laidOut (by kernel_rfl) (of_decide_eq_true (by kernel_rfl)) k0 bel lt0) trodAll_mk0),rfl,bel.frame _,fun h=>by cases h⟩
def cellsOfData:DataW Unit→Array Value
 | .agg l=>(l.flatMap fun x=>match x with
  | .lit (.int k n)=> [Value.int k n]
  | .agg m=>m.map fun y=>match y with
   | .lit (.int k n)=>Value.int k n
   | _=>undef
  | _=> [undef]).toArray
 | _=> #[]
def setRow (d:DataW Unit):Obj→Obj
 | .cells _ t frozen=> .cells (cellsOfData d) t frozen
 | o=>o
noncomputable def laidWorld (os:Os):World :=
 {World.holding Tryz.prog os ⟨#[],#[],[]⟩ with heap:=((((World.holding Tryz.prog os ⟨#[],#[],[]⟩).heap.modify 2 (setRow Rows.laid_math_bits_deBruijn32tab)).modify 3 (setRow Rows.laid_math_bits_deBruijn64tab)).modify 1 (setRow Rows.laid_internal_strconv_uint64pow10))}
theorem laid_met (os:Os):laidMet Tryz.prog Rows.treeParsesRow.laid ((laidWorld os).forCall (fun _ _=>0) ⟨#[],#[.slice none 0 0],[]⟩).memory :=
 laidMet_of_run' 8 (by kernel_rfl) (by kernel_rfl)
theorem reads (os:Os) {H:Type} (enc:TypeId×Value→H): ∃ places,DataW.whole enc Tryz.prog ((laidWorld os).forCall (fun _ _=>0) ⟨#[],#[.slice none 0 0],[]⟩).memory Tryz.f3.params.toList Rows.treeParsesSpec.vars false (#[.slice none 0 0]:Array Value).toList 8=some ([.nil],[],places) :=
 ⟨[],by kernel_rfl⟩
set_option maxRecDepth 100000 in
theorem lifted (os:Os) (started:os.Started) (H:Type) (enc:TypeId×Value→H) (F:Stop.Interp) :
  ReturnsInHanded {} Tryz.checked os 3 .any ((OpenSpec.ofChange Rows.treeParsesSpec).preRow enc Tryz.prog Tryz.f3 Rows.treeParsesRow.domain false Rows.treeParsesRow.laid) (((OpenSpec.ofChange Rows.treeParsesSpec).at F).post enc Tryz.prog Tryz.f3 false true false false):=by
 obtain ⟨places,hx⟩:=reads os enc
 refine returnsInHanded_of_row (C:=Tryz.checked) (s:=OpenSpec.ofChange Rows.treeParsesSpec) own started (by kernel_rfl) Tryz.func3
  (witness_row_at (enc:=enc) (C:=Tryz.checked) false (laidWorld os) #[.slice none 0 0] rfl (by kernel_rfl) (by kernel_rfl) (by kernel_rfl)
   (OpenSpec.preRow_of_cond 8 hx (by kernel_rfl) (fun k hk=>by cases hk) (by kernel_rfl) (laid_met os))) ?_
 intro W base args ds gs before hval hW _ _ _ hL _ _
 exact contract H enc W base args ds gs before hval hW hL
theorem said:Rows.TreeParsesSaid :=
 OpenClaim.holds_of_cond 3 Tryz.f3 rfl rfl rfl rfl rfl rfl rfl ⟨rfl,rfl,rfl,rfl,rfl⟩ rfl rfl rfl rfl rfl (by kernel_rfl) Tryz.func3 (by kernel_rfl)
  (of_decide_eq_true (by kernel_rfl)) (by unfold Func.isWrapper;first|(rw [if_pos (by decide+kernel)];kernel_rfl)|(rw [if_neg (by decide+kernel)];exact ⟨rfl,rfl⟩))
  (fun os started H enc _ F=>by rw [OpenClaim.pre_eq_preRow];exact lifted os started H enc F)
theorem plain (f : FuncId) (fn : Func) (hf : Tryz.pinned.checked.prog.funcNamed "cordon/cordonlaw20.TreeParses" = some f) (hfn : Tryz.pinned.checked.prog.funcs[f]? = some fn) :
  true=Tryz.pinned.checked.prog.looks []∧ ∀ (j:Nat) t,fn.params[j]? = some t→Tryz.pinned.checked.prog.wantsStandIn t=false:=by
 obtain rfl : f = 3 := Option.some.inj ((show Tryz.prog.funcNamed "cordon/cordonlaw20.TreeParses" = some 3 by kernel_rfl).symm.trans hf) |>.symm
 obtain rfl:fn=Tryz.f3:=(Option.some.inj (Tryz.func3.symm.trans hfn)).symm
 refine ⟨by kernel_rfl,fun j t ht=> ?_⟩
 rw [Tryz.params3] at ht
 have:t=22:=by
  have hm:=Array.mem_of_getElem? ht
  simp at hm
  first|omega|(rcases hm with rfl|rfl <;> simp)
 rcases this with rfl
 ·exact (show Tryz.prog.wantsStandIn 22=false by kernel_rfl)
theorem card:Rows.TreeParsesCardSaid :=
 Claim7.holds_tied_plain_at .later [] _ _ _ _ said (fun _ h=>by cases h) (by kernel_rfl) (fun _ h=>by cases h) treeParses_row_tie rfl ⟨rfl,rfl⟩ (by kernel_rfl) rfl plain (by kernel_rfl)
#print axioms card
end Go.Proofs.YtnmjdjldbloefaaGreatDoor.lawTreeParses
