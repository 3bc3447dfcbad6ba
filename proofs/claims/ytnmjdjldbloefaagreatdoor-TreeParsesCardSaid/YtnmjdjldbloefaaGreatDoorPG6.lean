import Derived.Test.YtnmjdjldbloefaaGreatDoorPE5
import Derived.Test.YtnmjdjldbloefaaGreatDoorPG2
/- (*strings.byteStringReplacer).Replace. -/
namespace Go.Proofs.YtnmjdjldbloefaaGreatDoor
open Go Go.RowKit
set_option linter.unusedSimpArgs false
set_option linter.unusedVariables false
set_option maxRecDepth 100000
set_option maxHeartbeats 8000000
theorem Qr.weakH {P:Program} {o:Oper} {ts:List VV} {H H':Heap} {v u:VV} {K:VV→Heap→Prop} (h:vop P o ts H=some (v,H')) (hw: ∀ (B:World) (M:Nat→Prop) (w:World) (Z:Nat→Prop) (ρ:Nat→Option (Nat×Nat)) (y:Value),Rel B M Z ρ H' w→Qm w Z ρ v y→Qm w Z ρ u y) (k:K u H'):Qr P o ts H K:=⟨⟨fun B M Z ρ a w rr KK QE h1 h2 h3=>Jb.plain h B M Z ρ a w rr KK QE h1 h2 fun v' v2 H2 Z' ρ' w' e e1 r1 v1=>by
 obtain ⟨rfl,rfl⟩:=e
 exact h3 v' u _ Z' ρ' w' k e1 r1 (hw _ _ _ _ _ _ r1 v1)⟩⟩
theorem Bg (d x:List UInt8) (n:Nat):(d++x).map bV++(List.replicate (n - d.length) (bV 0)).drop x.length=(d++x).map bV++List.replicate (n - (d++x).length) (bV 0):=by
 rw [List.drop_replicate,List.length_append,Nat.sub_sub]
theorem Yq (d:List UInt8) (n:Nat): ∀ v∈d.map bV++List.replicate n (bV 0),Qq v:=fun v hv=>by
 rcases List.mem_append.1 hv with h|h
 ·obtain ⟨c,_,rfl⟩:=List.mem_map.1 h
  exact Xa c
 ·rw [List.eq_of_mem_replicate h]
  exact Xa 0
theorem buf_set (d:List UInt8) (c:UInt8) (n:Nat) (h:d.length < n):(d.map bV++List.replicate (n - d.length) (bV 0)).set d.length (bV c)=(d++ [c]).map bV++List.replicate (n - (d++ [c]).length) (bV 0):=by
 rw [List.set_append_right _ _ (by simp),List.length_map,Nat.sub_self,List.length_append,show n - d.length=(n - (d.length+1))+1 by omega,List.replicate_succ,List.set_cons_zero,List.map_append,List.append_assoc]
 rfl
theorem Qr.mkB {o:Oper} {ts:List VV} {H:Heap} {K:VV→Heap→Prop} {a x:Operand} {z:Int} {L:Nat} (ho:o.op= .makeSlice 22 a x) (ha:Ql ts a= .sc (.int .i64 z)) (hx:Ql ts x= .sc (.int .i64 z)) (hz:z=(L:Int)) (hL:L≤140737488355328) (k:K (.sl H.next 0 L none 1) (H.add (.cells true (List.replicate L (bV 0))))):Qr Tryz.prog o ts H K:=by
 subst hz
 have hm:Ks Tryz.prog 22 (Ql ts a) (Ql ts x) H=some (.sl H.next 0 L (some L) 1,H.add (.cells true (List.replicate L (bV 0)))):=by
  rw [ha,hx]
  exact vmake_u8 hL
 refine Qr.weakH (vop_make ho hm) (fun B M w Z ρ y hr h=> ?_) k
 cases h with
 | sl hk hn hc hz =>
  have hg:(H.add (.cells true (List.replicate L (bV 0)))).get H.next=some (.cells true (List.replicate L (bV 0))):=by simp [Heap.add,Heap.get,Q8]
  obtain ⟨k',N',o',q1,q2,⟨cs,t,fr,q3,q4,q5,_⟩,_⟩:=hr.objC hg rfl
  rw [hk] at q1
  injection q1 with q1
  injection q1 with q1 q1'
  subst q1 q1'
  have hle:L≤cs.size:=by
   by_cases h0:L=0
   ·omega
   ·obtain ⟨c,hc2,_⟩:=q5 (L - 1) (bV 0) (by rw [List.getElem?_replicate,if_pos (by omega)])
    have:=(List.getElem?_eq_some_iff.1 hc2).1
    simp at this
    omega
  refine .sl hk hn (fun _ e=>by cases e) (fun _=> ?_)
  rw [hc L rfl]
  omega
theorem Qr.cpN {P:Program} {o:Oper} {ts:List VV} {H:Heap} {K:VV→Heap→Prop} {d s:Operand} {t e:TypeId} {u:VV} {b w n:Nat} {x done:List UInt8} {rest:List VV} {l:List VV} (m:Nat) (ho:o.op= .call ⟨.builtin .copy,#[d,s],#[t,t]⟩) (hu:P.underlying t=some (.slice e)) (hz:Jv P e=some 1) (hd:Ql ts d=u) (hr:RestV b w n u) (hs:Xe 1 (Ql ts s) H=some (m,l)) (hm:m=x.length) (hl:l=x.map bV)
  (hg:H.get b=some (.cells true (done.map bV++rest))) (hdn:done.length=w) (hn:done.length+rest.length=n) (hx:w+m≤n) (k:K (iV m) (H.set b (.cells true ((done++x).map bV++rest.drop x.length)))):Qr P o ts H K:=by
 subst hm
 exact Qr.cpB ho hu hz hd hr hs rfl hl hg hdn hn hx k
theorem vb_end (l:List UInt8):vbytes (List.take l.length (List.drop 0 (l.map bV++List.replicate (l.length - l.length) (bV 0))))=some l:=by
 rw [Nat.sub_self,List.drop_zero,List.replicate_zero,List.append_nil,List.take_of_length_le (by simp)]
 exact Za l
theorem esc_le (s:List UInt8) (i:Nat):(escL (s.take i)).length≤(escL s).length:=by
 have:=escL_app (s.take i) (s.drop i)
 rw [List.take_append_drop] at this
 rw [this,List.length_append]
 omega
theorem repl_short (row:List VV) (f10:row[10]? = some (.ro 2 [bV 92,bV 110])) (f34:row[34]? = some (.ro 2 [bV 92,bV 34])) (f92:row[92]? = some (.ro 2 [bV 92,bV 92])) (f256:row[256]? = some (.ro 3 [Qe [10],Qe [34],Qe [92]]))
  (fo: ∀ n,n < 256→n≠10→n≠34→n≠92→row[n]? = some nilS) (s:List UInt8) (hs:s.length≤1500) (hlt:s.length < 24):Qc Tryz.prog 181 [.rp row 0,Qe s] ⟨[],0⟩ (fun v _=>v=Qe (escL s)):=by
 have hel:=Wv s
 refine Qc.go Tryz.func181 rfl ?_
 repeat' (first|with_reducible refine And.intro ?_ ?_|(with_reducible intro hc;(try simp only [zz] at hc);try exact ct)|((conv=>whnf);first|(with_reducible first|refine And.intro ?_ ?_|intro hx|apply Val.via|apply Qi.via)|exact Is.mk rfl rfl|refine sp ?_|refine vx (by (first|exact hb|exact Qa rfl hrw (Q3 rfl rfl)|exact Qa rfl hrw ((Nat.zero_add _).trans (Q3 rfl rfl))|exact Qa rfl f256 rfl|exact Qa rfl rfl rfl|rfl)) ?_|refine dY ?_|fail|refine sq ?_))
 (all_goals try exact om)
 (refine Ji.mk (GWP.loopB [] (fun (b:Nat×Nat×Bool)=>b.1≤s.length∧b.2.1+b.1=s.length+(escL (s.take b.1)).length∧(b.2.2=false→escL (s.take b.1)=s.take b.1)) (fun b=> [(5,iV b.2.1),(6,Yg b.2.2),(10,iV b.1)]) (fun _=> []) 0 (fun b=>s.length - b.1) (0,s.length,false) ⟨Nat.zero_le _,rfl,fun _=>rfl⟩ ?_);(conv=>whnf);refine And.intro ?_ ?_)
 ·focus (refine ka [] ?_ ?_;all_goals (repeat' (first|exact rz|refine And.intro ?_ ?_|refine Exists.intro _ (And.intro rfl ?_)|refine ro ?_|refine Qu.cons ?_ ?_|exact Qn.of (Qb _)|exact rv)))
 rintro ⟨i,n,any⟩ ⟨g1,g2,g3⟩
 simp only at g1 g2 g3 ⊢
 by_cases hil:i < s.length
 ·obtain ⟨c,hb⟩: ∃ c,s[i]? = some c:=⟨_,List.getElem?_eq_getElem hil⟩
  have htk:=Dj hb
  have hte:s.take (i+1)=s.take i++ [c]:=by rw [List.take_add_one,hb];rfl
  have hlt1:=Wv (s.take i)
  have hcl:c.toNat < 256:=c.toNat_lt
  have hlt2:(s.take i).length=i:=by simp;omega
  by_cases h10:c.toNat=10
  ·obtain rfl:c=10:=UInt8.toNat_inj.1 h10
   have hrw:=f10
   have hE:(Ww 10).length=2:=rfl
   (repeat' (first|with_reducible refine And.intro ?_ ?_|(with_reducible intro hc;(try simp only [zz] at hc);try exact ct)|((conv=>whnf);first|(with_reducible first|refine And.intro ?_ ?_|intro hx|apply Val.via|apply Qi.via)|exact Is.mk rfl rfl|refine sp ?_|refine vx (by (first|exact hb|exact Qa rfl hrw (Q3 rfl rfl)|exact Qa rfl hrw ((Nat.zero_add _).trans (Q3 rfl rfl))|exact Qa rfl f256 rfl|exact Qa rfl rfl rfl|rfl)) ?_|refine dY ?_|fail|refine sq ?_)))
   (all_goals try exact om)
   (focus (refine Qf.mk ⟨(i+1,n+1,true),⟨by simp only;omega,by simp only [htk,List.length_append];omega,by simp⟩,?_,ka [] ?_ ?_⟩;(first|omega|(simp only;omega));all_goals (repeat' (first|exact rz|refine And.intro ?_ ?_|refine Exists.intro _ (And.intro rfl ?_)|refine ro ?_|refine Qu.cons ?_ ?_|(first|exact Qn.eq (Qz (by omega)) (Qb _)|exact Qn.of (Qb _))|exact rv))))
  ·by_cases h34:c.toNat=34
   ·obtain rfl:c=34:=UInt8.toNat_inj.1 h34
    have hrw:=f34
    have hE:(Ww 34).length=2:=rfl
    (repeat' (first|with_reducible refine And.intro ?_ ?_|(with_reducible intro hc;(try simp only [zz] at hc);try exact ct)|((conv=>whnf);first|(with_reducible first|refine And.intro ?_ ?_|intro hx|apply Val.via|apply Qi.via)|exact Is.mk rfl rfl|refine sp ?_|refine vx (by (first|exact hb|exact Qa rfl hrw (Q3 rfl rfl)|exact Qa rfl hrw ((Nat.zero_add _).trans (Q3 rfl rfl))|exact Qa rfl f256 rfl|exact Qa rfl rfl rfl|rfl)) ?_|refine dY ?_|fail|refine sq ?_)))
    (all_goals try exact om)
    (focus (refine Qf.mk ⟨(i+1,n+1,true),⟨by simp only;omega,by simp only [htk,List.length_append];omega,by simp⟩,?_,ka [] ?_ ?_⟩;(first|omega|(simp only;omega));all_goals (repeat' (first|exact rz|refine And.intro ?_ ?_|refine Exists.intro _ (And.intro rfl ?_)|refine ro ?_|refine Qu.cons ?_ ?_|(first|exact Qn.eq (Qz (by omega)) (Qb _)|exact Qn.of (Qb _))|exact rv))))
   ·by_cases h92:c.toNat=92
    ·obtain rfl:c=92:=UInt8.toNat_inj.1 h92
     have hrw:=f92
     have hE:(Ww 92).length=2:=rfl
     (repeat' (first|with_reducible refine And.intro ?_ ?_|(with_reducible intro hc;(try simp only [zz] at hc);try exact ct)|((conv=>whnf);first|(with_reducible first|refine And.intro ?_ ?_|intro hx|apply Val.via|apply Qi.via)|exact Is.mk rfl rfl|refine sp ?_|refine vx (by (first|exact hb|exact Qa rfl hrw (Q3 rfl rfl)|exact Qa rfl hrw ((Nat.zero_add _).trans (Q3 rfl rfl))|exact Qa rfl f256 rfl|exact Qa rfl rfl rfl|rfl)) ?_|refine dY ?_|fail|refine sq ?_)))
     (all_goals try exact om)
     (focus (refine Qf.mk ⟨(i+1,n+1,true),⟨by simp only;omega,by simp only [htk,List.length_append];omega,by simp⟩,?_,ka [] ?_ ?_⟩;(first|omega|(simp only;omega));all_goals (repeat' (first|exact rz|refine And.intro ?_ ?_|refine Exists.intro _ (And.intro rfl ?_)|refine ro ?_|refine Qu.cons ?_ ?_|(first|exact Qn.eq (Qz (by omega)) (Qb _)|exact Qn.of (Qb _))|exact rv))))
    ·have hE:Ww c= [c]:=by
      unfold Ww
      rw [if_neg h10,if_neg h34,if_neg h92]
     have hrw:=fo c.toNat c.toNat_lt h10 h34 h92
     unfold nilS at hrw
     rw [hE] at htk
     (repeat' (first|with_reducible refine And.intro ?_ ?_|(with_reducible intro hc;(try simp only [zz] at hc);try exact ct)|((conv=>whnf);first|(with_reducible first|refine And.intro ?_ ?_|intro hx|apply Val.via|apply Qi.via)|exact Is.mk rfl rfl|refine sp ?_|refine vx (by (first|exact hb|exact Qa rfl hrw (Q3 rfl rfl)|exact Qa rfl hrw ((Nat.zero_add _).trans (Q3 rfl rfl))|exact Qa rfl f256 rfl|exact Qa rfl rfl rfl|rfl)) ?_|refine dY ?_|fail|refine sq ?_)))
     (all_goals try exact om)
     (focus (refine Qf.mk ⟨(i+1,n,any),⟨by simp only;omega,by simp only [htk,List.length_append,List.length_cons,List.length_nil];omega,fun e=>by simp only;rw [htk,hte,g3 e]⟩,?_,ka [] ?_ ?_⟩;(first|omega|(simp only;omega));all_goals (repeat' (first|exact rz|refine And.intro ?_ ?_|refine Exists.intro _ (And.intro rfl ?_)|refine ro ?_|refine Qu.cons ?_ ?_|(first|exact Qn.eq (Qz (by omega)) (Qb _)|exact Qn.of (Qb _))|exact rv))))
 ·obtain rfl:i=s.length:=by omega
  rw [List.take_length] at g2 g3
  obtain rfl:n=(escL s).length:=by omega
  clear g2
  cases any with
  | false =>
   have e:=g3 rfl
   (repeat' (first|with_reducible refine And.intro ?_ ?_|(with_reducible intro hc;(try simp only [zz] at hc);try exact ct)|((conv=>whnf);first|(with_reducible first|refine And.intro ?_ ?_|intro hx|apply Val.via|apply Qi.via)|exact Is.mk rfl rfl|refine sp ?_|refine vx (by (first|exact hb|exact Qa rfl hrw (Q3 rfl rfl)|exact Qa rfl hrw ((Nat.zero_add _).trans (Q3 rfl rfl))|exact Qa rfl f256 rfl|exact Qa rfl rfl rfl|rfl)) ?_|refine dY ?_|fail|refine sq ?_)))
   (all_goals try exact om)
   all_goals exact Qf.mk (by rw [e];rfl)
  | true =>
   clear g3
   (repeat' (first|with_reducible refine And.intro ?_ ?_|(with_reducible intro hc;(try simp only [zz] at hc);try exact ct)|((conv=>whnf);first|(with_reducible first|refine And.intro ?_ ?_|intro hx|apply Val.via|apply Qi.via)|exact Is.mk rfl rfl|refine sp ?_|refine vx (by (first|exact hb|exact Qa rfl hrw (Q3 rfl rfl)|exact Qa rfl hrw ((Nat.zero_add _).trans (Q3 rfl rfl))|exact Qa rfl f256 rfl|exact Qa rfl rfl rfl|rfl)) ?_|refine dY ?_|fail|refine sq ?_)))
   (all_goals try exact om)
   refine Qr.mkB rfl rfl rfl rfl (by omega) ?_
   (repeat' (first|with_reducible refine And.intro ?_ ?_|(with_reducible intro hc;(try simp only [zz] at hc);try exact ct)|((conv=>whnf);first|(with_reducible first|refine And.intro ?_ ?_|intro hx|apply Val.via|apply Qi.via)|exact Is.mk rfl rfl|refine sp ?_|refine vx (by (first|exact hb|exact Qa rfl hrw (Q3 rfl rfl)|exact Qa rfl hrw ((Nat.zero_add _).trans (Q3 rfl rfl))|exact Qa rfl f256 rfl|exact Qa rfl rfl rfl|rfl)) ?_|refine dY ?_|fail|refine sq ?_)))
   (all_goals try exact om)
   (all_goals try exact om)
   (((refine Ji.mk (GWP.loopB [0] (fun (b:Nat×List UInt8)=>b.1≤s.length∧b.2=escL (s.take b.1)) (fun b=> [(13,iV b.2.length),(14,iV b.1)]) (fun b=> [(0,.cells true (b.2.map bV++List.replicate ((escL s).length - b.2.length) (bV 0)))]) 1 (fun b=>s.length - b.1) (0,[]) ⟨Nat.zero_le _,rfl⟩ ?_);(conv=>whnf);refine And.intro ?_ ?_));(focus (focus (refine ka [] ?_ ?_;all_goals (repeat' (first|exact rz|refine And.intro ?_ ?_|refine Exists.intro _ (And.intro rfl ?_)|refine ro ?_|refine Qu.cons ?_ ?_|exact Qu.of (by simp [Xa])|exact rv)))));rintro ⟨i,dn⟩ ⟨g1,g2⟩;simp only at g1 g2 ⊢;by_cases hil:i < s.length;(focus ((obtain ⟨c,hb⟩: ∃ c,s[i]? = some c:=⟨_,List.getElem?_eq_getElem hil⟩);(have htk:=Dj hb);(have hcl:c.toNat < 256:=c.toNat_lt);(have htl:=esc_le s (i+1));(rw [htk,← g2] at htl);by_cases h10:c.toNat=10;(focus (((obtain rfl:c=10:=UInt8.toNat_inj.1 h10);(have hrw:=f10);(have hE:Ww 10= [92,110]:=rfl);(rw [hE] at htk htl);(simp only [List.length_append,List.length_cons,List.length_nil] at htl);(repeat' (first|with_reducible refine And.intro ?_ ?_|(with_reducible intro hc;(try simp only [zz] at hc);try exact ct)|((conv=>whnf);first|(with_reducible first|refine And.intro ?_ ?_|intro hx|apply Val.via|apply Qi.via)|exact Is.mk rfl rfl|refine sp ?_|refine vx (by (first|exact hb|exact Qa rfl hrw (Q3 rfl rfl)|exact Qa rfl hrw ((Nat.zero_add _).trans (Q3 rfl rfl))|exact Qa rfl f256 rfl|exact Qa rfl rfl rfl|rfl)) ?_|refine dY ?_|(first|(refine Qs (Qr.slW (w:=dn.length) rfl Tryz.underlying22 (by kernel_rfl) rfl rfl rfl (by omega) ?_))|(refine Qs (Qr.cpN 2 (n:=(escL s).length) (x:= [92,110]) (done:=dn) (rest:=List.replicate ((escL s).length - dn.length) (bV 0)) rfl Tryz.underlying22 (by kernel_rfl) rfl (.inl ⟨by omega,rfl⟩) (Yv [92,110] _) rfl rfl rfl rfl (by simp;omega) (by omega) ?_)))|refine sq ?_)));(all_goals try exact om);(focus (refine Qf.mk ⟨(i+1,dn++ [92,110]),⟨by simp only;omega,by simp only;rw [htk,g2]⟩,?_,ka [] ?_ ?_⟩;(first|omega|(simp only;omega));all_goals (repeat' (first|exact rz|refine And.intro ?_ ?_|refine Exists.intro _ (And.intro rfl ?_)|refine ro ?_|refine Qu.cons ?_ ?_|(first|exact Qu.eq (Bg dn [92,110] (escL s).length) (Yq _ _)|exact Qn.eq (Qz (by simp;omega)) (Qb _))|exact rv)))))));by_cases h34:c.toNat=34;(focus (((obtain rfl:c=34:=UInt8.toNat_inj.1 h34);(have hrw:=f34);(have hE:Ww 34= [92,34]:=rfl);(rw [hE] at htk htl);(simp only [List.length_append,List.length_cons,List.length_nil] at htl);(repeat' (first|with_reducible refine And.intro ?_ ?_|(with_reducible intro hc;(try simp only [zz] at hc);try exact ct)|((conv=>whnf);first|(with_reducible first|refine And.intro ?_ ?_|intro hx|apply Val.via|apply Qi.via)|exact Is.mk rfl rfl|refine sp ?_|refine vx (by (first|exact hb|exact Qa rfl hrw (Q3 rfl rfl)|exact Qa rfl hrw ((Nat.zero_add _).trans (Q3 rfl rfl))|exact Qa rfl f256 rfl|exact Qa rfl rfl rfl|rfl)) ?_|refine dY ?_|(first|(refine Qs (Qr.slW (w:=dn.length) rfl Tryz.underlying22 (by kernel_rfl) rfl rfl rfl (by omega) ?_))|(refine Qs (Qr.cpN 2 (n:=(escL s).length) (x:= [92,34]) (done:=dn) (rest:=List.replicate ((escL s).length - dn.length) (bV 0)) rfl Tryz.underlying22 (by kernel_rfl) rfl (.inl ⟨by omega,rfl⟩) (Yv [92,34] _) rfl rfl rfl rfl (by simp;omega) (by omega) ?_)))|refine sq ?_)));(all_goals try exact om);(focus (refine Qf.mk ⟨(i+1,dn++ [92,34]),⟨by simp only;omega,by simp only;rw [htk,g2]⟩,?_,ka [] ?_ ?_⟩;(first|omega|(simp only;omega));all_goals (repeat' (first|exact rz|refine And.intro ?_ ?_|refine Exists.intro _ (And.intro rfl ?_)|refine ro ?_|refine Qu.cons ?_ ?_|(first|exact Qu.eq (Bg dn [92,34] (escL s).length) (Yq _ _)|exact Qn.eq (Qz (by simp;omega)) (Qb _))|exact rv)))))));by_cases h92:c.toNat=92;(focus (((obtain rfl:c=92:=UInt8.toNat_inj.1 h92);(have hrw:=f92);(have hE:Ww 92= [92,92]:=rfl);(rw [hE] at htk htl);(simp only [List.length_append,List.length_cons,List.length_nil] at htl);(repeat' (first|with_reducible refine And.intro ?_ ?_|(with_reducible intro hc;(try simp only [zz] at hc);try exact ct)|((conv=>whnf);first|(with_reducible first|refine And.intro ?_ ?_|intro hx|apply Val.via|apply Qi.via)|exact Is.mk rfl rfl|refine sp ?_|refine vx (by (first|exact hb|exact Qa rfl hrw (Q3 rfl rfl)|exact Qa rfl hrw ((Nat.zero_add _).trans (Q3 rfl rfl))|exact Qa rfl f256 rfl|exact Qa rfl rfl rfl|rfl)) ?_|refine dY ?_|(first|(refine Qs (Qr.slW (w:=dn.length) rfl Tryz.underlying22 (by kernel_rfl) rfl rfl rfl (by omega) ?_))|(refine Qs (Qr.cpN 2 (n:=(escL s).length) (x:= [92,92]) (done:=dn) (rest:=List.replicate ((escL s).length - dn.length) (bV 0)) rfl Tryz.underlying22 (by kernel_rfl) rfl (.inl ⟨by omega,rfl⟩) (Yv [92,92] _) rfl rfl rfl rfl (by simp;omega) (by omega) ?_)))|refine sq ?_)));(all_goals try exact om);(focus (refine Qf.mk ⟨(i+1,dn++ [92,92]),⟨by simp only;omega,by simp only;rw [htk,g2]⟩,?_,ka [] ?_ ?_⟩;(first|omega|(simp only;omega));all_goals (repeat' (first|exact rz|refine And.intro ?_ ?_|refine Exists.intro _ (And.intro rfl ?_)|refine ro ?_|refine Qu.cons ?_ ?_|(first|exact Qu.eq (Bg dn [92,92] (escL s).length) (Yq _ _)|exact Qn.eq (Qz (by simp;omega)) (Qb _))|exact rv)))))));(have hE:Ww c= [c]:=by unfold Ww;rw [if_neg h10,if_neg h34,if_neg h92]);(rw [hE] at htk htl);(simp only [List.length_append,List.length_cons,List.length_nil] at htl);(have hrw:=fo c.toNat hcl h10 h34 h92);(unfold nilS at hrw);(repeat' (first|with_reducible refine And.intro ?_ ?_|(with_reducible intro hc;(try simp only [zz] at hc);try exact ct)|((conv=>whnf);first|(with_reducible first|refine And.intro ?_ ?_|intro hx|apply Val.via|apply Qi.via)|exact Is.mk rfl rfl|refine sp ?_|refine vx (by (first|exact hb|exact Qa rfl hrw (Q3 rfl rfl)|exact Qa rfl hrw ((Nat.zero_add _).trans (Q3 rfl rfl))|exact Qa rfl f256 rfl|exact Qa rfl rfl rfl|rfl)) ?_|refine dY ?_|fail|refine sq ?_)));(all_goals try exact om);(apply Qr.via);(case h=>exact vop_store rfl (vstore_i8 (vs:=dn.map bV++List.replicate ((escL s).length - dn.length) (bV 0)) (i:=dn.length) rfl ((Nat.zero_add _).trans (Q3 rfl rfl)) (by simp;omega)));(repeat' (first|with_reducible refine And.intro ?_ ?_|(with_reducible intro hc;(try simp only [zz] at hc);try exact ct)|((conv=>whnf);first|(with_reducible first|refine And.intro ?_ ?_|intro hx|apply Val.via|apply Qi.via)|exact Is.mk rfl rfl|refine sp ?_|refine vx (by (first|exact hb|exact Qa rfl hrw (Q3 rfl rfl)|exact Qa rfl hrw ((Nat.zero_add _).trans (Q3 rfl rfl))|exact Qa rfl f256 rfl|exact Qa rfl rfl rfl|rfl)) ?_|refine dY ?_|fail|refine sq ?_)));(all_goals try exact om);(focus (refine Qf.mk ⟨(i+1,dn++ [c]),⟨by simp only;omega,by simp only;rw [htk,g2]⟩,?_,ka [] ?_ ?_⟩;(first|omega|(simp only;omega));all_goals (repeat' (first|exact rz|refine And.intro ?_ ?_|refine Exists.intro _ (And.intro rfl ?_)|refine ro ?_|refine Qu.cons ?_ ?_|(first|exact Qu.eq (buf_set dn c (escL s).length (by omega)) (Yq _ _)|exact Qn.eq (Qz (by simp;omega)) (Qb _))|exact rv))))));(obtain rfl:i=s.length:=by omega);(rw [List.take_length] at g2);subst g2;(repeat' (first|with_reducible refine And.intro ?_ ?_|(with_reducible intro hc;(try simp only [zz] at hc);try exact ct)|((conv=>whnf);first|(with_reducible first|refine And.intro ?_ ?_|intro hx|apply Val.via|apply Qi.via)|exact Is.mk rfl rfl|refine sp ?_|refine vx (by (first|(first|exact hb|exact Qa rfl hrw (Q3 rfl rfl)|exact Qa rfl hrw ((Nat.zero_add _).trans (Q3 rfl rfl))|exact Qa rfl f256 rfl|exact Qa rfl rfl rfl|rfl)|exact vb_end _)) ?_|refine dY ?_|fail|refine sq ?_)));(all_goals (first|omega|contradiction|(simp;done)|skip));(all_goals exact Qf.mk rfl))
def cs3 (s:List UInt8):Nat→Nat
 | 0=>0
 | 1=>s.count 10
 | 2=>s.count 10+s.count 34
 | _=>s.count 10+s.count 34+s.count 92
theorem esc_cnt: ∀ s:List UInt8,(escL s).length=s.length+cs3 s 3
 | []=>rfl
 | c::r=>by
  have ih:=esc_cnt r
  have e: ∀ k:UInt8,(c::r).count k=r.count k+(if c.toNat=k.toNat then 1 else 0):=fun k=>by
   rw [List.count_cons]
   congr 1
   by_cases h:c=k
   ·subst h;simp
   ·have h2: ¬ c.toNat=k.toNat:=fun e=>h (UInt8.toNat_inj.1 e)
    rw [if_neg h2,if_neg (by simpa using h)]
  simp only [cs3] at ih ⊢
  rw [e 10,e 34,e 92]
  have k1:(10:UInt8).toNat=10:=rfl
  have k2:(34:UInt8).toNat=34:=rfl
  have k3:(92:UInt8).toNat=92:=rfl
  rw [k1,k2,k3]
  simp only [escL,List.length_append,List.length_cons]
  unfold Ww
  by_cases h10:c.toNat=10
  ·simp only [h10];simp;omega
  ·by_cases h34:c.toNat=34
   ·simp only [h34];simp;omega
   ·by_cases h92:c.toNat=92
    ·simp only [h92];simp;omega
    ·simp only [h10,h34,h92,if_false];simp;omega
theorem esc_same {s:List UInt8} (h:cs3 s 3=0):escL s=s:=by
 induction s with
 | nil=>rfl
 | cons c r ih =>
  have hl:=esc_cnt (c::r)
  have hr:=(Wv r).1
  have hb:=escB_len c
  simp only [escL,List.length_append,List.length_cons] at hl
  have hr2:=esc_cnt r
  have h0:cs3 r 3=0:=by omega
  have hE:Ww c= [c]:=by
   unfold Ww at hb hl ⊢
   by_cases h10:c.toNat=10
   ·simp [h10] at hl;omega
   ·by_cases h34:c.toNat=34
    ·simp [h34] at hl;omega
    ·by_cases h92:c.toNat=92
     ·simp [h92] at hl;omega
     ·rw [if_neg h10,if_neg h34,if_neg h92]
  rw [escL,hE,ih h0]
  rfl
theorem repl_long (row:List VV) (f10:row[10]? = some (.ro 2 [bV 92,bV 110])) (f34:row[34]? = some (.ro 2 [bV 92,bV 34])) (f92:row[92]? = some (.ro 2 [bV 92,bV 92])) (f256:row[256]? = some (.ro 3 [Qe [10],Qe [34],Qe [92]]))
  (fo: ∀ n,n < 256→n≠10→n≠34→n≠92→row[n]? = some nilS) (s:List UInt8) (hs:s.length≤1500) (hlt:24≤s.length):Qc Tryz.prog 181 [.rp row 0,Qe s] ⟨[],0⟩ (fun v _=>v=Qe (escL s)):=by
 have hel:=Wv s
 have hec:=esc_cnt s
 have hsame:= @esc_same s
 refine Qc.go Tryz.func181 rfl ?_
 repeat' (first|with_reducible refine And.intro ?_ ?_|(with_reducible intro hc;(try simp only [zz] at hc);try exact ct)|((conv=>whnf);first|(with_reducible first|refine And.intro ?_ ?_|intro hx|apply Val.via|apply Qi.via)|exact Is.mk rfl rfl|refine sp ?_|refine vx (by (first|exact hb|exact Qa rfl hrw (Q3 rfl rfl)|exact Qa rfl hrw ((Nat.zero_add _).trans (Q3 rfl rfl))|exact Qa rfl f256 rfl|exact Qa rfl rfl rfl|rfl)) ?_|refine dY ?_|fail|refine sq ?_))
 (all_goals try exact om)
 (refine Ji.mk (GWP.loopB [] (fun (b:Nat×Nat×Bool)=>b.1≤3∧b.2.1=s.length+cs3 s b.1∧(b.2.2=false→cs3 s b.1=0)) (fun b=> [(5,iV b.2.1),(6,Yg b.2.2),(32,iV b.1)]) (fun _=> []) 0 (fun b=>3 - b.1) (0,s.length,false) ⟨Nat.zero_le _,rfl,fun _=>rfl⟩ ?_);(conv=>whnf);refine And.intro ?_ ?_)
 ·focus (refine ka [] ?_ ?_;all_goals (repeat' (first|exact rz|refine And.intro ?_ ?_|refine Exists.intro _ (And.intro rfl ?_)|refine ro ?_|refine Qu.cons ?_ ?_|exact Qn.of (Qb _)|exact rv)))
 rintro ⟨i,n,any⟩ ⟨g1,g2,g3⟩
 simp only at g1 g2 g3 ⊢
 match i,g1,g2,g3 with
 | 0,g1,g2,g3 =>
  ((have hrw:=f10);(have hc1:=List.count_le_length (a:=(10:UInt8)) (l:=s));(have hc2:=List.count_le_length (a:=(34:UInt8)) (l:=s));(have hc3:=List.count_le_length (a:=(92:UInt8)) (l:=s));(simp only [cs3] at g2 g3);(repeat' (first|with_reducible refine And.intro ?_ ?_|(with_reducible intro hc;(try simp only [zz] at hc);try exact ct)|((conv=>whnf);first|(with_reducible first|refine And.intro ?_ ?_|intro hx|apply Val.via|apply Qi.via)|exact Is.mk rfl rfl|refine sp ?_|refine vx (by (first|exact hb|exact Qa rfl hrw (Q3 rfl rfl)|exact Qa rfl hrw ((Nat.zero_add _).trans (Q3 rfl rfl))|exact Qa rfl f256 rfl|exact Qa rfl rfl rfl|rfl)) ?_|refine dY ?_|refine cl (Cu s 10 _) ?_|refine sq ?_)));(all_goals try exact om);(all_goals (first|(exact (by decide))|skip));(all_goals (first|((focus (refine Qf.mk ⟨(1,n+s.count 10,true),⟨by simp,by simp only [cs3];omega,by simp⟩,?_,ka [] ?_ ?_⟩;(first|omega|(simp only;omega));all_goals (repeat' (first|exact rz|refine And.intro ?_ ?_|refine Exists.intro _ (And.intro rfl ?_)|refine ro ?_|refine Qu.cons ?_ ?_|(first|exact Qn.eq (Qz (by omega)) (Qb _)|exact Qn.of (Qb _))|exact rv))));done)|(focus (refine Qf.mk ⟨(1,n,any),⟨by simp,by simp only [cs3];omega,fun e=>by simp only [cs3];have:=g3 e;omega⟩,?_,ka [] ?_ ?_⟩;(first|omega|(simp only;omega));all_goals (repeat' (first|exact rz|refine And.intro ?_ ?_|refine Exists.intro _ (And.intro rfl ?_)|refine ro ?_|refine Qu.cons ?_ ?_|(first|exact Qn.eq (Qz (by omega)) (Qb _)|exact Qn.of (Qb _))|exact rv)))))))
 | 1,g1,g2,g3 =>
  ((have hrw:=f34);(have hc1:=List.count_le_length (a:=(10:UInt8)) (l:=s));(have hc2:=List.count_le_length (a:=(34:UInt8)) (l:=s));(have hc3:=List.count_le_length (a:=(92:UInt8)) (l:=s));(simp only [cs3] at g2 g3);(repeat' (first|with_reducible refine And.intro ?_ ?_|(with_reducible intro hc;(try simp only [zz] at hc);try exact ct)|((conv=>whnf);first|(with_reducible first|refine And.intro ?_ ?_|intro hx|apply Val.via|apply Qi.via)|exact Is.mk rfl rfl|refine sp ?_|refine vx (by (first|exact hb|exact Qa rfl hrw (Q3 rfl rfl)|exact Qa rfl hrw ((Nat.zero_add _).trans (Q3 rfl rfl))|exact Qa rfl f256 rfl|exact Qa rfl rfl rfl|rfl)) ?_|refine dY ?_|refine cl (Cu s 34 _) ?_|refine sq ?_)));(all_goals try exact om);(all_goals (first|(exact (by decide))|skip));(all_goals (first|((focus (refine Qf.mk ⟨(2,n+s.count 34,true),⟨by simp,by simp only [cs3];omega,by simp⟩,?_,ka [] ?_ ?_⟩;(first|omega|(simp only;omega));all_goals (repeat' (first|exact rz|refine And.intro ?_ ?_|refine Exists.intro _ (And.intro rfl ?_)|refine ro ?_|refine Qu.cons ?_ ?_|(first|exact Qn.eq (Qz (by omega)) (Qb _)|exact Qn.of (Qb _))|exact rv))));done)|(focus (refine Qf.mk ⟨(2,n,any),⟨by simp,by simp only [cs3];omega,fun e=>by simp only [cs3];have:=g3 e;omega⟩,?_,ka [] ?_ ?_⟩;(first|omega|(simp only;omega));all_goals (repeat' (first|exact rz|refine And.intro ?_ ?_|refine Exists.intro _ (And.intro rfl ?_)|refine ro ?_|refine Qu.cons ?_ ?_|(first|exact Qn.eq (Qz (by omega)) (Qb _)|exact Qn.of (Qb _))|exact rv)))))))
 | 2,g1,g2,g3 =>
  ((have hrw:=f92);(have hc1:=List.count_le_length (a:=(10:UInt8)) (l:=s));(have hc2:=List.count_le_length (a:=(34:UInt8)) (l:=s));(have hc3:=List.count_le_length (a:=(92:UInt8)) (l:=s));(simp only [cs3] at g2 g3);(repeat' (first|with_reducible refine And.intro ?_ ?_|(with_reducible intro hc;(try simp only [zz] at hc);try exact ct)|((conv=>whnf);first|(with_reducible first|refine And.intro ?_ ?_|intro hx|apply Val.via|apply Qi.via)|exact Is.mk rfl rfl|refine sp ?_|refine vx (by (first|exact hb|exact Qa rfl hrw (Q3 rfl rfl)|exact Qa rfl hrw ((Nat.zero_add _).trans (Q3 rfl rfl))|exact Qa rfl f256 rfl|exact Qa rfl rfl rfl|rfl)) ?_|refine dY ?_|refine cl (Cu s 92 _) ?_|refine sq ?_)));(all_goals try exact om);(all_goals (first|(exact (by decide))|skip));(all_goals (first|((focus (refine Qf.mk ⟨(3,n+s.count 92,true),⟨by simp,by simp only [cs3];omega,by simp⟩,?_,ka [] ?_ ?_⟩;(first|omega|(simp only;omega));all_goals (repeat' (first|exact rz|refine And.intro ?_ ?_|refine Exists.intro _ (And.intro rfl ?_)|refine ro ?_|refine Qu.cons ?_ ?_|(first|exact Qn.eq (Qz (by omega)) (Qb _)|exact Qn.of (Qb _))|exact rv))));done)|(focus (refine Qf.mk ⟨(3,n,any),⟨by simp,by simp only [cs3];omega,fun e=>by simp only [cs3];have:=g3 e;omega⟩,?_,ka [] ?_ ?_⟩;(first|omega|(simp only;omega));all_goals (repeat' (first|exact rz|refine And.intro ?_ ?_|refine Exists.intro _ (And.intro rfl ?_)|refine ro ?_|refine Qu.cons ?_ ?_|(first|exact Qn.eq (Qz (by omega)) (Qb _)|exact Qn.of (Qb _))|exact rv)))))))
 | 3,g1,g2,g3 =>
  rw [← hec] at g2
  subst g2
  cases any with
  | false =>
   have e:=hsame (g3 rfl)
   (repeat' (first|with_reducible refine And.intro ?_ ?_|(with_reducible intro hc;(try simp only [zz] at hc);try exact ct)|((conv=>whnf);first|(with_reducible first|refine And.intro ?_ ?_|intro hx|apply Val.via|apply Qi.via)|exact Is.mk rfl rfl|refine sp ?_|refine vx (by (first|exact hb|exact Qa rfl hrw (Q3 rfl rfl)|exact Qa rfl hrw ((Nat.zero_add _).trans (Q3 rfl rfl))|exact Qa rfl f256 rfl|exact Qa rfl rfl rfl|rfl)) ?_|refine dY ?_|fail|refine sq ?_)))
   (all_goals try exact om)
   all_goals exact Qf.mk (by rw [e];rfl)
  | true =>
   clear g3
   (repeat' (first|with_reducible refine And.intro ?_ ?_|(with_reducible intro hc;(try simp only [zz] at hc);try exact ct)|((conv=>whnf);first|(with_reducible first|refine And.intro ?_ ?_|intro hx|apply Val.via|apply Qi.via)|exact Is.mk rfl rfl|refine sp ?_|refine vx (by (first|exact hb|exact Qa rfl hrw (Q3 rfl rfl)|exact Qa rfl hrw ((Nat.zero_add _).trans (Q3 rfl rfl))|exact Qa rfl f256 rfl|exact Qa rfl rfl rfl|rfl)) ?_|refine dY ?_|fail|refine sq ?_)))
   (all_goals try exact om)
   refine Qr.mkB rfl rfl rfl rfl (by omega) ?_
   (repeat' (first|with_reducible refine And.intro ?_ ?_|(with_reducible intro hc;(try simp only [zz] at hc);try exact ct)|((conv=>whnf);first|(with_reducible first|refine And.intro ?_ ?_|intro hx|apply Val.via|apply Qi.via)|exact Is.mk rfl rfl|refine sp ?_|refine vx (by (first|exact hb|exact Qa rfl hrw (Q3 rfl rfl)|exact Qa rfl hrw ((Nat.zero_add _).trans (Q3 rfl rfl))|exact Qa rfl f256 rfl|exact Qa rfl rfl rfl|rfl)) ?_|refine dY ?_|fail|refine sq ?_)))
   (all_goals try exact om)
   (((refine Ji.mk (GWP.loopB [0] (fun (b:Nat×List UInt8)=>b.1≤s.length∧b.2=escL (s.take b.1)) (fun b=> [(13,iV b.2.length),(14,iV b.1)]) (fun b=> [(0,.cells true (b.2.map bV++List.replicate ((escL s).length - b.2.length) (bV 0)))]) 1 (fun b=>s.length - b.1) (0,[]) ⟨Nat.zero_le _,rfl⟩ ?_);(conv=>whnf);refine And.intro ?_ ?_));(focus (focus (refine ka [] ?_ ?_;all_goals (repeat' (first|exact rz|refine And.intro ?_ ?_|refine Exists.intro _ (And.intro rfl ?_)|refine ro ?_|refine Qu.cons ?_ ?_|exact Qu.of (by simp [Xa])|exact rv)))));rintro ⟨i,dn⟩ ⟨g1,g2⟩;simp only at g1 g2 ⊢;by_cases hil:i < s.length;(focus ((obtain ⟨c,hb⟩: ∃ c,s[i]? = some c:=⟨_,List.getElem?_eq_getElem hil⟩);(have htk:=Dj hb);(have hcl:c.toNat < 256:=c.toNat_lt);(have htl:=esc_le s (i+1));(rw [htk,← g2] at htl);by_cases h10:c.toNat=10;(focus (((obtain rfl:c=10:=UInt8.toNat_inj.1 h10);(have hrw:=f10);(have hE:Ww 10= [92,110]:=rfl);(rw [hE] at htk htl);(simp only [List.length_append,List.length_cons,List.length_nil] at htl);(repeat' (first|with_reducible refine And.intro ?_ ?_|(with_reducible intro hc;(try simp only [zz] at hc);try exact ct)|((conv=>whnf);first|(with_reducible first|refine And.intro ?_ ?_|intro hx|apply Val.via|apply Qi.via)|exact Is.mk rfl rfl|refine sp ?_|refine vx (by (first|exact hb|exact Qa rfl hrw (Q3 rfl rfl)|exact Qa rfl hrw ((Nat.zero_add _).trans (Q3 rfl rfl))|exact Qa rfl f256 rfl|exact Qa rfl rfl rfl|rfl)) ?_|refine dY ?_|(first|(refine Qs (Qr.slW (w:=dn.length) rfl Tryz.underlying22 (by kernel_rfl) rfl rfl rfl (by omega) ?_))|(refine Qs (Qr.cpN 2 (n:=(escL s).length) (x:= [92,110]) (done:=dn) (rest:=List.replicate ((escL s).length - dn.length) (bV 0)) rfl Tryz.underlying22 (by kernel_rfl) rfl (.inl ⟨by omega,rfl⟩) (Yv [92,110] _) rfl rfl rfl rfl (by simp;omega) (by omega) ?_)))|refine sq ?_)));(all_goals try exact om);(focus (refine Qf.mk ⟨(i+1,dn++ [92,110]),⟨by simp only;omega,by simp only;rw [htk,g2]⟩,?_,ka [] ?_ ?_⟩;(first|omega|(simp only;omega));all_goals (repeat' (first|exact rz|refine And.intro ?_ ?_|refine Exists.intro _ (And.intro rfl ?_)|refine ro ?_|refine Qu.cons ?_ ?_|(first|exact Qu.eq (Bg dn [92,110] (escL s).length) (Yq _ _)|exact Qn.eq (Qz (by simp;omega)) (Qb _))|exact rv)))))));by_cases h34:c.toNat=34;(focus (((obtain rfl:c=34:=UInt8.toNat_inj.1 h34);(have hrw:=f34);(have hE:Ww 34= [92,34]:=rfl);(rw [hE] at htk htl);(simp only [List.length_append,List.length_cons,List.length_nil] at htl);(repeat' (first|with_reducible refine And.intro ?_ ?_|(with_reducible intro hc;(try simp only [zz] at hc);try exact ct)|((conv=>whnf);first|(with_reducible first|refine And.intro ?_ ?_|intro hx|apply Val.via|apply Qi.via)|exact Is.mk rfl rfl|refine sp ?_|refine vx (by (first|exact hb|exact Qa rfl hrw (Q3 rfl rfl)|exact Qa rfl hrw ((Nat.zero_add _).trans (Q3 rfl rfl))|exact Qa rfl f256 rfl|exact Qa rfl rfl rfl|rfl)) ?_|refine dY ?_|(first|(refine Qs (Qr.slW (w:=dn.length) rfl Tryz.underlying22 (by kernel_rfl) rfl rfl rfl (by omega) ?_))|(refine Qs (Qr.cpN 2 (n:=(escL s).length) (x:= [92,34]) (done:=dn) (rest:=List.replicate ((escL s).length - dn.length) (bV 0)) rfl Tryz.underlying22 (by kernel_rfl) rfl (.inl ⟨by omega,rfl⟩) (Yv [92,34] _) rfl rfl rfl rfl (by simp;omega) (by omega) ?_)))|refine sq ?_)));(all_goals try exact om);(focus (refine Qf.mk ⟨(i+1,dn++ [92,34]),⟨by simp only;omega,by simp only;rw [htk,g2]⟩,?_,ka [] ?_ ?_⟩;(first|omega|(simp only;omega));all_goals (repeat' (first|exact rz|refine And.intro ?_ ?_|refine Exists.intro _ (And.intro rfl ?_)|refine ro ?_|refine Qu.cons ?_ ?_|(first|exact Qu.eq (Bg dn [92,34] (escL s).length) (Yq _ _)|exact Qn.eq (Qz (by simp;omega)) (Qb _))|exact rv)))))));by_cases h92:c.toNat=92;(focus (((obtain rfl:c=92:=UInt8.toNat_inj.1 h92);(have hrw:=f92);(have hE:Ww 92= [92,92]:=rfl);(rw [hE] at htk htl);(simp only [List.length_append,List.length_cons,List.length_nil] at htl);(repeat' (first|with_reducible refine And.intro ?_ ?_|(with_reducible intro hc;(try simp only [zz] at hc);try exact ct)|((conv=>whnf);first|(with_reducible first|refine And.intro ?_ ?_|intro hx|apply Val.via|apply Qi.via)|exact Is.mk rfl rfl|refine sp ?_|refine vx (by (first|exact hb|exact Qa rfl hrw (Q3 rfl rfl)|exact Qa rfl hrw ((Nat.zero_add _).trans (Q3 rfl rfl))|exact Qa rfl f256 rfl|exact Qa rfl rfl rfl|rfl)) ?_|refine dY ?_|(first|(refine Qs (Qr.slW (w:=dn.length) rfl Tryz.underlying22 (by kernel_rfl) rfl rfl rfl (by omega) ?_))|(refine Qs (Qr.cpN 2 (n:=(escL s).length) (x:= [92,92]) (done:=dn) (rest:=List.replicate ((escL s).length - dn.length) (bV 0)) rfl Tryz.underlying22 (by kernel_rfl) rfl (.inl ⟨by omega,rfl⟩) (Yv [92,92] _) rfl rfl rfl rfl (by simp;omega) (by omega) ?_)))|refine sq ?_)));(all_goals try exact om);(focus (refine Qf.mk ⟨(i+1,dn++ [92,92]),⟨by simp only;omega,by simp only;rw [htk,g2]⟩,?_,ka [] ?_ ?_⟩;(first|omega|(simp only;omega));all_goals (repeat' (first|exact rz|refine And.intro ?_ ?_|refine Exists.intro _ (And.intro rfl ?_)|refine ro ?_|refine Qu.cons ?_ ?_|(first|exact Qu.eq (Bg dn [92,92] (escL s).length) (Yq _ _)|exact Qn.eq (Qz (by simp;omega)) (Qb _))|exact rv)))))));(have hE:Ww c= [c]:=by unfold Ww;rw [if_neg h10,if_neg h34,if_neg h92]);(rw [hE] at htk htl);(simp only [List.length_append,List.length_cons,List.length_nil] at htl);(have hrw:=fo c.toNat hcl h10 h34 h92);(unfold nilS at hrw);(repeat' (first|with_reducible refine And.intro ?_ ?_|(with_reducible intro hc;(try simp only [zz] at hc);try exact ct)|((conv=>whnf);first|(with_reducible first|refine And.intro ?_ ?_|intro hx|apply Val.via|apply Qi.via)|exact Is.mk rfl rfl|refine sp ?_|refine vx (by (first|exact hb|exact Qa rfl hrw (Q3 rfl rfl)|exact Qa rfl hrw ((Nat.zero_add _).trans (Q3 rfl rfl))|exact Qa rfl f256 rfl|exact Qa rfl rfl rfl|rfl)) ?_|refine dY ?_|fail|refine sq ?_)));(all_goals try exact om);(apply Qr.via);(case h=>exact vop_store rfl (vstore_i8 (vs:=dn.map bV++List.replicate ((escL s).length - dn.length) (bV 0)) (i:=dn.length) rfl ((Nat.zero_add _).trans (Q3 rfl rfl)) (by simp;omega)));(repeat' (first|with_reducible refine And.intro ?_ ?_|(with_reducible intro hc;(try simp only [zz] at hc);try exact ct)|((conv=>whnf);first|(with_reducible first|refine And.intro ?_ ?_|intro hx|apply Val.via|apply Qi.via)|exact Is.mk rfl rfl|refine sp ?_|refine vx (by (first|exact hb|exact Qa rfl hrw (Q3 rfl rfl)|exact Qa rfl hrw ((Nat.zero_add _).trans (Q3 rfl rfl))|exact Qa rfl f256 rfl|exact Qa rfl rfl rfl|rfl)) ?_|refine dY ?_|fail|refine sq ?_)));(all_goals try exact om);(focus (refine Qf.mk ⟨(i+1,dn++ [c]),⟨by simp only;omega,by simp only;rw [htk,g2]⟩,?_,ka [] ?_ ?_⟩;(first|omega|(simp only;omega));all_goals (repeat' (first|exact rz|refine And.intro ?_ ?_|refine Exists.intro _ (And.intro rfl ?_)|refine ro ?_|refine Qu.cons ?_ ?_|(first|exact Qu.eq (buf_set dn c (escL s).length (by omega)) (Yq _ _)|exact Qn.eq (Qz (by simp;omega)) (Qb _))|exact rv))))));(obtain rfl:i=s.length:=by omega);(rw [List.take_length] at g2);subst g2;(repeat' (first|with_reducible refine And.intro ?_ ?_|(with_reducible intro hc;(try simp only [zz] at hc);try exact ct)|((conv=>whnf);first|(with_reducible first|refine And.intro ?_ ?_|intro hx|apply Val.via|apply Qi.via)|exact Is.mk rfl rfl|refine sp ?_|refine vx (by (first|(first|exact hb|exact Qa rfl hrw (Q3 rfl rfl)|exact Qa rfl hrw ((Nat.zero_add _).trans (Q3 rfl rfl))|exact Qa rfl f256 rfl|exact Qa rfl rfl rfl|rfl)|exact vb_end _)) ?_|refine dY ?_|fail|refine sq ?_)));(all_goals (first|omega|contradiction|(simp;done)|skip));(all_goals exact Qf.mk rfl))
 | n+4,g1,_,_=>omega
end Go.Proofs.YtnmjdjldbloefaaGreatDoor
