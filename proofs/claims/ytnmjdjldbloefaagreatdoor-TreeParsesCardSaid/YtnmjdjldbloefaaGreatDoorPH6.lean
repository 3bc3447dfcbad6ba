import Derived.Test.YtnmjdjldbloefaaGreatDoorPH0
import Derived.Test.YtnmjdjldbloefaaGreatDoorPE5
import Derived.Test.YtnmjdjldbloefaaGreatDoorPH4
import Derived.Test.YtnmjdjldbloefaaGreatDoorPG4
import Derived.Test.YtnmjdjldbloefaaGreatDoorPH5
/- tree.Parse, at any text. -/
namespace Go.Proofs.YtnmjdjldbloefaaGreatDoor
open Go Go.RowKit
set_option linter.unusedSimpArgs false
set_option linter.unusedVariables false
set_option maxRecDepth 100000
set_option maxHeartbeats 8000000
theorem scLoop_len: ∀ (f:Nat) (out:List Nd) (s:PSt),(scLoop f out s).1.length≤out.length+f
 | 0,out,s=>by simp [scLoop]
 | f+1,out,s=>by
  unfold scLoop
  split
  ·have:=scLoop_len f (out++ [(onS s).1]) (onS s).2
   simp only [List.length_append,List.length_cons,List.length_nil] at this
   omega
  ·simp only;omega
def D9 (x:List UInt8):Value:= .string ⟨x.toArray⟩
def ttK (_:List UInt8):VV:= .sc (.bool true)
theorem mfind_str (tx:List UInt8): ∀ (seen:List (List UInt8)) (i:Nat),∃ j,mfind .string (D9 tx) (seen.map D9) (seen.map ttK) i=if seen.contains tx then some (some (j,.sc (.bool true))) else some none
 | [],i=>⟨0,rfl⟩
 | y::r,i=>by
  obtain ⟨j,hj⟩:=mfind_str tx r (i+1)
  have hk:keyEq .string (D9 tx) (D9 y)=some (tx==y):=rfl
  simp only [List.map_cons,mfind,hk,List.contains_cons]
  cases hb:(tx==y) with
  | true=>exact ⟨i,rfl⟩
  | false=>exact ⟨j,by simp only [Bool.false_or];exact hj⟩
theorem Qr.lookB {o:Oper} {ts:List VV} {H:Heap} {K:VV→Heap→Prop} {seen:List (List UInt8)} {tx:List UInt8} {b i j:Nat} (ho:o.op= .lookup 57 (.tmp i) (.tmp j) false) (h1:Ql ts (.tmp i)= .mp b) (h2:Ql ts (.tmp j)=Qe tx) (hg:H.get b=some (.map (seen.map D9) (seen.map ttK))) (k:K (Yg (seen.contains tx)) H):Qr Tryz.prog o ts H K:=by
 refine Qr.via (v:=Yg (seen.contains tx)) (H':=H) ?_ k
 obtain ⟨m,hm⟩:=mfind_str tx seen 0
 obtain ⟨kt,e,u1,u2,u3⟩: ∃ kt e,(Tryz.prog).underlying 57=some (.map kt e)∧(Tryz.prog).underlying kt=some .string∧vzeroV Tryz.prog e=some (.sc (.bool false)):=⟨_,_,rfl,rfl,rfl⟩
 have hs:Qe tx= .sc (D9 tx):=rfl
 simp only [vop,ho,h1,h2,vlookup,vlook,u1,u2,hs,isKeyB,hg]
 have hk:isKeyB .string (D9 tx)=true:=rfl
 simp only [hk,hm]
 cases seen.contains tx with
 | true=>rfl
 | false=>simp only [u3];rfl
theorem Qr.mupdB {o:Oper} {ts:List VV} {H:Heap} {K:VV→Heap→Prop} {seen:List (List UInt8)} {tx:List UInt8} {b i j:Nat} (ho:o.op= .mapUpdate 57 (.tmp i) (.tmp j) (.const (.bool true))) (h1:Ql ts (.tmp i)= .mp b) (h2:Ql ts (.tmp j)=Qe tx) (hg:H.get b=some (.map (seen.map D9) (seen.map ttK))) (hn:seen.contains tx=false) (k:K (.tp []) (H.set b (.map ((seen++ [tx]).map D9) ((seen++ [tx]).map ttK)))):Qr Tryz.prog o ts H K:=by
 refine Qr.via (v:= .tp []) (H':=H.set b (.map ((seen++ [tx]).map D9) ((seen++ [tx]).map ttK))) ?_ k
 obtain ⟨m,hm⟩:=mfind_str tx seen 0
 rw [hn] at hm
 obtain ⟨kt,e,u1,u2⟩: ∃ kt e,(Tryz.prog).underlying 57=some (.map kt e)∧(Tryz.prog).underlying kt=some .string:=⟨_,_,rfl,rfl⟩
 have hs:Qe tx= .sc (D9 tx):=rfl
 have hk:isKeyB .string (D9 tx)=true:=rfl
 have hc:Ql ts (.const (.bool true))= .sc (.bool true):=rfl
 simp only [vop,ho,h1,h2,hc,Er,u1,u2,hs,hk,hg,hm,List.map_append,List.map_cons,List.map_nil]
 rfl
theorem parse_call (t:List UInt8) (ht:t.length≤50000) (H:Heap):Qc Tryz.prog 8 [roB t] H (fun v K=>v= .tp [nV (Ym t).1,iV (Ym t).2]∧K=H):=by
 refine Qc.frozen (Q:=fun v K=>Frz K v (.tp [nV (Ym t).1,iV (Ym t).2])) (by simp [J2]) ?_ (fun v K h=>h)
 have hsg: ∀ H,Qc Tryz.prog 17 [roB t] H (fun v K=>v=sgsR (Yi t)∧K=H):=fun H=>Qc.viewed (args':= [roB t]) (.cons (Kv.of (J2 t)) .nil) (signsG_call t ht) (fun v K e=>e)
 have hz:nV nd0= .ag [iV 0,Qe [],iV 0,.ro 0 []]:=by rw [nd0,nV,cellsN,rowsN];rfl
 have fz: ∀ (K:Heap) (e:Nat),Frz K (.tp [.ag [iV 0,Qe [],iV 0,.sc (.slice none 0 0)],iV e]) (.tp [nV nd0,iV e]):=fun K e=>by
  rw [hz]
  exact Frz.tp (.cons (Frz.agT (.cons (.of (Qb _)) (.cons (.of (Qd _)) (.cons (.of (Qb _)) (.cons Frz.nil0 .nil))))) (.cons (.of (Qb _)) .nil))
 unfold Ym
 have hk:True:=trivial
 cases hS:Yi t with
 | inl e =>
  have he:=Ea hS
  rw [hS] at hsg
  simp only [sgsR] at hsg
  refine Qc.go Tryz.func8 rfl ?_
  (repeat' (first|with_reducible refine And.intro ?_ ?_|(with_reducible intro hc;(try simp only [zz] at hc);try exact ct)|((conv=>whnf);first|(with_reducible first|refine And.intro ?_ ?_|intro hx|apply Val.via|apply Qi.via)|exact Is.mk rfl rfl|refine sp ?_|refine vx (by (first|exact Qv rfl rfl|exact Q6 hk rfl|exact Qa rfl rfl rfl|rfl)) ?_|refine dY ?_|refine cl (hsg _) ?_|refine sq ?_)))
  (all_goals try exact om)
  all_goals exact Qf.mk (fz _ e)
 | inr l =>
  obtain ⟨hw,hl⟩:=Nt hS
  rw [hS] at hsg
  simp only [sgsR] at hsg
  have k1:=fun (H:Heap) (hb:H.get 1=some (pC ⟨l,0,0⟩))=>Jf.at (Qk _) (by simp) (script_call ⟨l,0,0⟩ hw (by simp only;omega) (Nat.zero_le _)) hb
  have hks:(Xy ⟨l,0,0⟩).1= .mk 0 [] 0 (Xy ⟨l,0,0⟩).1.kids:=rfl
  have hkl:(Xy ⟨l,0,0⟩).1.kids.length≤2000:=by
   have h:=scLoop_len (l.length+2) [] ⟨l,0,0⟩
   simp only [List.length_nil] at h
   show (scLoop (l.length+2) [] ⟨l,0,0⟩).1.length≤2000
   omega
  simp only
  generalize Xy ⟨l,0,0⟩=q at *
  obtain ⟨n0,s1⟩:=q
  simp only at k1 hks hkl ⊢
  rw [hks] at k1 ⊢
  generalize n0.kids=ks at *
  clear hks
  rw [resP_eq]
  simp only [nV,cellsN] at k1
  obtain ⟨l1,d1,e1⟩:=s1
  simp only [Dz] at k1
  by_cases he:e1≠0
  ·simp only
   rw [if_pos he]
   refine Qc.go Tryz.func8 rfl ?_
   (repeat' (first|with_reducible refine And.intro ?_ ?_|(with_reducible intro hc;(try simp only [zz] at hc);try exact ct)|((conv=>whnf);first|(with_reducible first|refine And.intro ?_ ?_|intro hx|apply Val.via|apply Qi.via)|exact Is.mk rfl rfl|refine sp ?_|refine vx (by (first|exact Qv rfl rfl|exact Q6 hk rfl|exact Qa rfl rfl rfl|rfl)) ?_|(first|refine cl (hsg _) ?_|refine cl (k1 _ rfl) ?_)|refine sq ?_)))
   (all_goals try exact om)
   refine Ji.mk (GWP.drawM mixed 53 [5] (fun H=> [H.set 0 (.cells true [iV 0,Qe [],iV 0,.sc (.slice none 0 0)])]) (by kernel_rfl) (by rfl) ?_)
   repeat' (first|with_reducible refine And.intro ?_ ?_|(with_reducible intro hc;(try simp only [zz] at hc);try exact ct)|exact trivial|((conv=>whnf);first|with_reducible refine And.intro ?_ ?_|with_reducible intro hx|exact Is.mk rfl rfl|exact trivial|(with_reducible first|apply Val.via|apply Qi.via)|fail|refine sp ?_|refine vx (by (first|exact Qv rfl rfl|exact Q6 hk rfl|exact Qa rfl rfl rfl|rfl)) ?_|fail|refine sq ?_))
   (all_goals try exact om)
   all_goals exact Qf.mk (fz _ e1)
  ·simp only
   rw [if_neg he]
   have he:e1=0:=by omega
   subst he
   refine Qc.go Tryz.func8 rfl ?_
   (repeat' (first|with_reducible refine And.intro ?_ ?_|(with_reducible intro hc;(try simp only [zz] at hc);try exact ct)|((conv=>whnf);first|(with_reducible first|refine And.intro ?_ ?_|intro hx|apply Val.via|apply Qi.via)|exact Is.mk rfl rfl|refine sp ?_|refine vx (by (first|exact Qv rfl rfl|exact Q6 hk rfl|exact Qa rfl rfl rfl|rfl)) ?_|(first|refine cl (hsg _) ?_|refine cl (k1 _ rfl) ?_)|refine sq ?_)))
   (all_goals try exact om)
   (refine Ji.mk (GWP.loopB [3] (fun (a:Nat×List (List UInt8))=>a.1≤ks.length∧dupB a.2 (ks.drop a.1)=dupB [] ks) (fun a=> [(39,iV a.1)]) (fun a=> [(3,.map (a.2.map D9) (a.2.map ttK))]) 4 (fun a=>ks.length - a.1) (0,[]) ⟨Nat.zero_le _,by simp⟩ ?_);(conv=>whnf);refine And.intro ?_ ?_)
   ·focus (refine ka [] ?_ ?_;all_goals (repeat' (first|exact trivial|(refine And.intro ?_ ?_)|(refine Exists.intro _ (And.intro rfl ?_))|(refine Yl.map ?_)|(refine Yl.opt ?_)|(refine Yl.toOpt ?_)|(refine Yl.cells ?_)|exact Yl.defs|exact Qu.nil|(refine Qu.cons ?_ ?_)|(first|fail|exact rv)|(with_unfolding_all exact (rfl:(_:VObj)=_)))))
   rintro ⟨i,seen⟩ ⟨g1,g2⟩
   simp only at g1 g2 ⊢
   by_cases hil:i < ks.length
   ·obtain ⟨kd,hk⟩:=Ze hil
    obtain ⟨op,tx,nm,kk⟩:=kd
    have hd:ks.drop i= .mk op tx nm kk::ks.drop (i+1):=by
     obtain ⟨hi,e⟩:=List.getElem?_eq_some_iff.1 hk
     rw [List.drop_eq_getElem_cons hi,e]
    rw [hd] at g2
    cases hcn:seen.contains tx with
    | true =>
     rw [dupB_yes hcn] at g2
     have lk:=fun {o:Oper} {ts:List VV} {H:Heap} {K:VV→Heap→Prop} {b i j:Nat} (ho:o.op= .lookup 57 (.tmp i) (.tmp j) false) (h1:Ql ts (.tmp i)= .mp b) (h2:Ql ts (.tmp j)=Qe tx) (hg:H.get b=some (.map (seen.map D9) (seen.map ttK))) (k:K (Yg true) H)=>(Qr.lookB ho h1 h2 hg (by rw [hcn];exact k):Qr Tryz.prog o ts H K)
     rw [← g2]
     simp only [resP]
     (repeat' (first|with_reducible refine And.intro ?_ ?_|(with_reducible intro hc;(try simp only [zz] at hc);try exact ct)|((conv=>whnf);first|(with_reducible first|refine And.intro ?_ ?_|intro hx|apply Val.via|apply Qi.via)|exact Is.mk rfl rfl|(refine Qs (lk rfl rfl rfl rfl ?_))|refine sp ?_|refine vx (by (first|exact Qv rfl rfl|exact Q6 hk rfl|exact Qa rfl rfl rfl|rfl)) ?_|fail|refine sq ?_)))
     (all_goals try exact om)
     all_goals exact Qf.mk (fz _ 5)
    | false =>
     rw [dupB_no hcn] at g2
     have lk:=fun {o:Oper} {ts:List VV} {H:Heap} {K:VV→Heap→Prop} {b i j:Nat} (ho:o.op= .lookup 57 (.tmp i) (.tmp j) false) (h1:Ql ts (.tmp i)= .mp b) (h2:Ql ts (.tmp j)=Qe tx) (hg:H.get b=some (.map (seen.map D9) (seen.map ttK))) (k:K (Yg false) H)=>(Qr.lookB ho h1 h2 hg (by rw [hcn];exact k):Qr Tryz.prog o ts H K)
     (repeat' (first|with_reducible refine And.intro ?_ ?_|(with_reducible intro hc;(try simp only [zz] at hc);try exact ct)|((conv=>whnf);first|(with_reducible first|refine And.intro ?_ ?_|intro hx|apply Val.via|apply Qi.via)|exact Is.mk rfl rfl|(first|refine Qs (lk rfl rfl rfl rfl ?_)|refine Qs (Qr.mupdB (seen:=seen) (tx:=tx) rfl rfl rfl rfl hcn ?_))|refine sp ?_|refine vx (by (first|exact Qv rfl rfl|exact Q6 hk rfl|exact Qa rfl rfl rfl|rfl)) ?_|fail|refine sq ?_)))
     (all_goals try exact om)
     focus (refine Qf.mk ⟨(i+1,seen++ [tx]),⟨by simp only;omega,g2⟩,?_,ka [] ?_ ?_⟩;(first|omega|(simp only;omega));all_goals (repeat' (first|exact trivial|(refine And.intro ?_ ?_)|(refine Exists.intro _ (And.intro rfl ?_))|(refine Yl.map ?_)|(refine Yl.opt ?_)|(refine Yl.toOpt ?_)|(refine Yl.cells ?_)|exact Yl.defs|exact Qu.nil|(refine Qu.cons ?_ ?_)|(first|(first|exact Qu.of (Jg (fun _=>Qb _) _)|exact Qn.eq (Qz (by omega)) (Qb _))|exact rv)|(with_unfolding_all exact (rfl:(_:VObj)=_)))))
   ·obtain rfl:i=ks.length:=by omega
    rw [List.drop_length,dupB] at g2
    rw [← g2]
    simp only [resP]
    (repeat' (first|with_reducible refine And.intro ?_ ?_|(with_reducible intro hc;(try simp only [zz] at hc);try exact ct)|((conv=>whnf);first|(with_reducible first|refine And.intro ?_ ?_|intro hx|apply Val.via|apply Qi.via)|exact Is.mk rfl rfl|refine sp ?_|refine vx (by (first|exact Qv rfl rfl|exact Q6 hk rfl|exact Qa rfl rfl rfl|rfl)) ?_|fail|refine sq ?_)))
    (all_goals try exact om)
    all_goals exact Qf.mk (Frz.tp (.cons (.of (Qk (.mk 0 [] 0 ks))) (.cons (.of (Qb _)) .nil)))
theorem Qc.fzS {P:Program} {f:FuncId} {H:Heap} {Q:VV→Heap→Prop} {b n z:Nat} {c:Option Nat} {vs:List VV} (hg:H.get b=some (.cells true vs)) (hl:0+n*z≤vs.length) (hn: ∀ v∈vs,Qq v) (h:Qc P f [.ro n ((vs.drop 0).take (n*z))] (H.del b) Q):Qc P f [.sl b 0 n c z] H Q:=fun B M Z ρ w ra h1 h2=>by
 obtain ⟨l⟩:=ra
 match l,h2 with
 | [y],h2 =>
  have h3:=h2.2 0 _ _ rfl rfl
  cases h3 with
  | sl hk hcap hc hzz =>
   obtain ⟨ds,g1,g2,g3⟩:=h1.read hg hk 0 (n*z) hl
   refine (h B M _ ρ w _ (h1.freezeB hg hk) (Pw.cons ?_ Pw.nil)).mono ?_
   ·refine .ro (cs:=ds) (.inr rfl) hcap g1.1 (fun i hi=> ?_) (fun i u c' hu hc'=> ?_)
    ·have:=g3 i (ds[i]'hi) (List.getElem?_eq_getElem hi)
     rw [Xb] at this
     rw [this,List.getElem?_eq_getElem hi]
    ·have hm:u∈vs:=List.mem_of_mem_drop (List.mem_of_mem_take (List.mem_of_getElem? hu))
     exact ((hn u hm) _ _ _ _ _ (g1.2 i u c' hu hc')).zmono fun _ h=> .inl h
   ·rintro e w' ⟨v',v,H',Z',ρ',e0,q,e1,r1,v1⟩
    exact ⟨v',v,H',Z',ρ',e0,q,e1.unfreeze (h1.ownB hg rfl hk),r1,v1⟩
theorem parseS (w:List UInt8) (hw:w.length≤50000) {H:Heap} {b n:Nat} {c:Option Nat} {vs:List VV} (hg:H.get b=some (.cells true vs)) (hv:vs=w.map bV) (hn:n=w.length):Qc Tryz.prog 8 [.sl b 0 n c 1] H (fun v K=>v= .tp [nV (Ym w).1,iV (Ym w).2]∧K=H.del b):=by
 subst hv hn
 refine Qc.fzS hg (by simp) (Jg Xa w) ?_
 rw [List.drop_zero,Nat.mul_one,List.take_of_length_le (by simp)]
 exact parse_call w hw _
theorem lives20_call (H:Heap):Qc Tryz.prog 7 [] H (fun x K=>x= .sc (.bool true)∧K=H):=by
 refine Qc.pure (by simp) (Qb _) ?_
 have k1: ∀ {H:Heap} {b n:Nat} {c:Option Nat} {vs:List VV},H.get b=some (.cells true vs)→vs=tx20.map bV→n=tx20.length→Qc Tryz.prog 8 [.sl b 0 n c 1] H (fun v K=>v= .tp [nV nd20,iV 0]∧K=H.del b):=fun {H b n c vs} hg hv hn=>by
  have h:=parseS tx20 (by decide) (c:=c) hg hv hn
  rw [parse20] at h
  exact h
 have k2:=fun H=>print20 H
 have hn:nV nd20= .ag [iV 0,Qe [],iV 0,.ro 1 (rowsN nd20.kids)]:=rfl
 simp only [hn] at k1 k2
 generalize rowsN nd20.kids=rw0 at *
 refine Qc.go Tryz.func7 rfl ?_
 (repeat' (first|with_reducible refine And.intro ?_ ?_|(with_reducible intro hc;(try simp only [zz] at hc);try exact ct)|((conv=>whnf);first|(with_reducible first|refine And.intro ?_ ?_|intro hx|apply Val.via|apply Qi.via)|exact Is.mk rfl rfl|refine sp ?_|refine vx (by (first|exact Qv rfl rfl|exact Qa rfl rfl rfl|rfl)) ?_|refine dY ?_|(first|refine cl (k1 rfl rfl rfl) ?_|refine cl (k2 _) ?_)|refine sq ?_)))
 (all_goals (first|omega|contradiction|(exfalso;have hmx:IntKind.i64.max=9223372036854775807:=rfl;rw [hmx] at hx;simp [ByteArray.size_append,ByteArray.size] at hx;omega)|skip))
 all_goals exact Qf.mk rfl
end Go.Proofs.YtnmjdjldbloefaaGreatDoor
