import Derived.Test.YtpbiblhkcomekaaGreatBE5
import Derived.Test.YtpbiblhkcomekaaGreatBH4
import Derived.Test.YtpbiblhkcomekaaGreatBG4
/- tree.Parse, at any text. -/
namespace Go.Proofs.YtpbiblhkcomekaaGreat
open Go Go.RowKit
set_option linter.unusedSimpArgs false
set_option linter.unusedVariables false
set_option maxRecDepth 100000
set_option maxHeartbeats 8000000
theorem lexG_wf: ∀ (f:Nat) (u:List UInt8) (a cnt:Nat) (l:List (Sg×Nat)),lexG f u a cnt= .inr l→WfL l∧(cnt≤1024→l.length+cnt≤1025)
 | 0,u,a,cnt,l,h=>by rw [lexG] at h;cases h
 | f+1,u,a,cnt,l,h=>by
  rw [lexG] at h
  split at h
  ·injection h with h
   subst h
   exact ⟨⟨[],_,rfl,rfl⟩,fun hc=>by simp;omega⟩
  ·split at h
   ·cases h
   ·split at h
    ·cases h
    ·rename_i hc
     cases hL:lexG f (Kx (u.drop (Xl u).n)) (a+(Xl u).n+empB (u.drop (Xl u).n) false) (cnt+1) with
     | inl e=>rw [hL] at h;cases h
     | inr l1 =>
      rw [hL] at h
      injection h with h
      subst h
      obtain ⟨⟨p,z,e1,e2⟩,h2⟩:=lexG_wf f _ _ _ l1 hL
      exact ⟨⟨_::p,z,by rw [e1];rfl,e2⟩,fun _=>by have:=h2 (by omega);simp only [List.length_cons];omega⟩
theorem Cd {t:List UInt8} {l:List (Sg×Nat)} (h:Zr t= .inr l):WfL l∧l.length≤1025:=by
 unfold Zr at h
 split at h
 ·cases h
 ·obtain ⟨h1,h2⟩:=lexG_wf _ _ _ _ _ h
  exact ⟨h1,by have:=h2 (by omega);omega⟩
theorem scLoop_len: ∀ (f:Nat) (out:List Nd) (s:PSt),(scLoop f out s).1.length≤out.length+f
 | 0,out,s=>by simp [scLoop]
 | f+1,out,s=>by
  unfold scLoop
  split
  ·have:=scLoop_len f (out++ [(onS s).1]) (onS s).2
   simp only [List.length_append,List.length_cons,List.length_nil] at this
   omega
  ·simp only;omega
theorem Km {l:List Nd} {i o op nm:Nat} {tx:List UInt8} {ks:List Nd} (h:l[i]? = some (.mk op tx nm ks)) (ho:o=i*4):vat Tryz.prog 63 (rowsN l) o=some (.ag [iV op,Qn tx,iV nm,.ro ks.length (rowsN ks)]):=by
 have h1:Wo Tryz.prog 63=some true:=by kernel_rfl
 have h2:Jr Tryz.prog 63=some 4:=by kernel_rfl
 subst ho
 have key: ∀ (l:List Nd) (i:Nat) (n:Nd),l[i]? = some n→((rowsN l).drop (i*4)).take 4=cellsN n∧i*4+4≤(rowsN l).length:=by
  intro l
  induction l with
  | nil=>intro i n h;simp at h
  | cons q r ih =>
   intro i n h
   cases i with
   | zero =>
    simp at h
    subst h
    rw [rowsN]
    refine ⟨?_,by rw [List.length_append,X5];omega⟩
    rw [Nat.zero_mul,List.drop_zero,List.take_append_of_le_length (by rw [X5];exact Nat.le_refl _),List.take_of_length_le (by rw [X5];exact Nat.le_refl _)]
   | succ i =>
    have ih:=ih i n (by simpa using h)
    rw [rowsN,show (i+1)*4=(cellsN q).length+i*4 by rw [X5];omega,List.drop_append]
    refine ⟨?_,by rw [List.length_append];omega⟩
    rw [List.drop_of_length_le (by omega),List.nil_append,show (cellsN q).length+i*4 - (cellsN q).length=i*4 by omega]
    exact ih.1
 obtain ⟨k1,k2⟩:=key l i _ h
 have h3:Nat.ble (i*4+4) (rowsN l).length=true:=Nat.ble_eq_true_of_le k2
 simp only [vat,h1,h2,h3,k1,cellsN]
def strK (x:List UInt8):Value:= .string ⟨x.toArray⟩
def ttK (_:List UInt8):VV:= .sc (.bool true)
theorem mfind_str (tx:List UInt8): ∀ (seen:List (List UInt8)) (i:Nat),∃ j,W9 .string (strK tx) (seen.map strK) (seen.map ttK) i=if seen.contains tx then some (some (j,.sc (.bool true))) else some none
 | [],i=>⟨0,rfl⟩
 | y::r,i=>by
  obtain ⟨j,hj⟩:=mfind_str tx r (i+1)
  have hk:keyEq .string (strK tx) (strK y)=some (tx==y):=rfl
  simp only [List.map_cons,W9,hk,List.contains_cons]
  cases hb:(tx==y) with
  | true=>exact ⟨i,rfl⟩
  | false=>exact ⟨j,by simp only [Bool.false_or];exact hj⟩
theorem Qr.lookB {o:Oper} {ts:List VV} {H:Heap} {K:VV→Heap→Prop} {seen:List (List UInt8)} {tx:List UInt8} {b i j:Nat} (ho:o.op= .lookup 117 (.tmp i) (.tmp j) false) (h1:Qh ts (.tmp i)= .mp b) (h2:Qh ts (.tmp j)=Qn tx) (hg:H.get b=some (.map (seen.map strK) (seen.map ttK))) (k:K (Xk (seen.contains tx)) H):Qr Tryz.prog o ts H K:=by
 refine Qr.via (v:=Xk (seen.contains tx)) (H':=H) ?_ k
 obtain ⟨m,hm⟩:=mfind_str tx seen 0
 obtain ⟨kt,e,u1,u2,u3⟩: ∃ kt e,(Tryz.prog).underlying 117=some (.map kt e)∧(Tryz.prog).underlying kt=some .string∧vzeroV Tryz.prog e=some (.sc (.bool false)):=⟨_,_,rfl,rfl,rfl⟩
 have hs:Qn tx= .sc (strK tx):=rfl
 simp only [vop,ho,h1,h2,B5,vlook,u1,u2,hs,isKeyB,hg]
 have hk:isKeyB .string (strK tx)=true:=rfl
 simp only [hk,hm]
 cases seen.contains tx with
 | true=>rfl
 | false=>simp only [u3];rfl
theorem Qr.mupdB {o:Oper} {ts:List VV} {H:Heap} {K:VV→Heap→Prop} {seen:List (List UInt8)} {tx:List UInt8} {b i j:Nat} (ho:o.op= .mapUpdate 117 (.tmp i) (.tmp j) (.const (.bool true))) (h1:Qh ts (.tmp i)= .mp b) (h2:Qh ts (.tmp j)=Qn tx) (hg:H.get b=some (.map (seen.map strK) (seen.map ttK))) (hn:seen.contains tx=false) (k:K (.tp []) (H.set b (.map ((seen++ [tx]).map strK) ((seen++ [tx]).map ttK)))):Qr Tryz.prog o ts H K:=by
 refine Qr.via (v:= .tp []) (H':=H.set b (.map ((seen++ [tx]).map strK) ((seen++ [tx]).map ttK))) ?_ k
 obtain ⟨m,hm⟩:=mfind_str tx seen 0
 rw [hn] at hm
 obtain ⟨kt,e,u1,u2⟩: ∃ kt e,(Tryz.prog).underlying 117=some (.map kt e)∧(Tryz.prog).underlying kt=some .string:=⟨_,_,rfl,rfl⟩
 have hs:Qn tx= .sc (strK tx):=rfl
 have hk:isKeyB .string (strK tx)=true:=rfl
 have hc:Qh ts (.const (.bool true))= .sc (.bool true):=rfl
 simp only [vop,ho,h1,h2,hc,B4,u1,u2,hs,hk,hg,hm,List.map_append,List.map_cons,List.map_nil]
 rfl
theorem dupB_yes {seen:List (List UInt8)} {op nm:Nat} {tx:List UInt8} {kk r:List Nd} (h:seen.contains tx=true):dupB seen (.mk op tx nm kk::r)=true:=by
 rw [dupB]
 exact if_pos h
theorem dupB_no {seen:List (List UInt8)} {op nm:Nat} {tx:List UInt8} {kk r:List Nd} (h:seen.contains tx=false):dupB seen (.mk op tx nm kk::r)=dupB (seen++ [tx]) r:=by
 rw [dupB]
 exact if_neg (by show ¬ seen.contains tx=true;rw [h];decide)
def resP (ks:List Nd):Bool→Nd×Nat
 | true=>(nd0,5)
 | false=>(.mk 0 [] 0 ks,0)
theorem resP_eq (ks:List Nd):(if dupB [] (Nd.mk 0 [] 0 ks).kids=true then (nd0,5) else ((Nd.mk 0 [] 0 ks:Nd),0))=resP ks (dupB [] ks):=by
 show (if dupB [] ks=true then _ else _)=_
 cases dupB [] ks <;> rfl
theorem parse_call (t:List UInt8) (ht:t.length≤50000) (H:Heap):Qc Tryz.prog 19 [roB t] H (fun v K=>v= .tp [nV (Zs t).1,iV (Zs t).2]∧K=H):=by
 refine Qc.frozen (Q:=fun v K=>Frz K v (.tp [nV (Zs t).1,iV (Zs t).2])) (by simp [J4]) ?_ (fun v K h=>h)
 have hsg: ∀ H,Qc Tryz.prog 40 [roB t] H (fun v K=>v=sgsR (Zr t)∧K=H):=fun H=>Qc.viewed (args':= [roB t]) (.cons (Cq.of (J4 t)) .nil) (signsG_call t ht) (fun v K e=>e)
 have hz:nV nd0= .ag [iV 0,Qn [],iV 0,.ro 0 []]:=by rw [nd0,nV,cellsN,rowsN];rfl
 have fz: ∀ (K:Heap) (e:Nat),Frz K (.tp [.ag [iV 0,Qn [],iV 0,.sc (.slice none 0 0)],iV e]) (.tp [nV nd0,iV e]):=fun K e=>by
  rw [hz]
  exact Frz.tp (.cons (Frz.agT (.cons (.of (Qb _)) (.cons (.of (Qj _)) (.cons (.of (Qb _)) (.cons Frz.nil0 .nil))))) (.cons (.of (Qb _)) .nil))
 unfold Zs
 have hk:True:=trivial
 cases hS:Zr t with
 | inl e =>
  have he:=signsB_err hS
  rw [hS] at hsg
  simp only [sgsR] at hsg
  refine Qc.go Tryz.func19 rfl ?_
  (repeat' (first|with_reducible refine And.intro ?_ ?_|(with_reducible intro hc;(try simp only [zz] at hc);try exact ct)|((conv=>whnf);first|(with_reducible first|refine And.intro ?_ ?_|intro hx|apply Val.via|apply Qk.via)|exact Is.mk rfl rfl|refine sp ?_|refine vx (by (first|exact Ql rfl rfl|exact Km hk rfl|exact Qa rfl rfl rfl|rfl)) ?_|refine dY ?_|refine cl (hsg _) ?_|refine sq ?_)))
  (all_goals try exact om)
  all_goals exact Qg.mk (fz _ e)
 | inr l =>
  obtain ⟨hw,hl⟩:=Cd hS
  rw [hS] at hsg
  simp only [sgsR] at hsg
  have k1:=fun (H:Heap) (hb:H.get 1=some (pC ⟨l,0,0⟩))=>Q5.at (Q0 _) (by simp) (script_call ⟨l,0,0⟩ hw (by simp only;omega) (Nat.zero_le _)) hb
  have hks:(X9 ⟨l,0,0⟩).1= .mk 0 [] 0 (X9 ⟨l,0,0⟩).1.kids:=rfl
  have hkl:(X9 ⟨l,0,0⟩).1.kids.length≤2000:=by
   have h:=scLoop_len (l.length+2) [] ⟨l,0,0⟩
   simp only [List.length_nil] at h
   show (scLoop (l.length+2) [] ⟨l,0,0⟩).1.length≤2000
   omega
  simp only
  generalize X9 ⟨l,0,0⟩=q at *
  obtain ⟨n0,s1⟩:=q
  simp only at k1 hks hkl ⊢
  rw [hks] at k1 ⊢
  generalize n0.kids=ks at *
  clear hks
  rw [resP_eq]
  simp only [nV,cellsN] at k1
  obtain ⟨l1,d1,e1⟩:=s1
  simp only [Cy] at k1
  by_cases he:e1≠0
  ·simp only
   rw [if_pos he]
   refine Qc.go Tryz.func19 rfl ?_
   (repeat' (first|with_reducible refine And.intro ?_ ?_|(with_reducible intro hc;(try simp only [zz] at hc);try exact ct)|((conv=>whnf);first|(with_reducible first|refine And.intro ?_ ?_|intro hx|apply Val.via|apply Qk.via)|exact Is.mk rfl rfl|refine sp ?_|refine vx (by (first|exact Ql rfl rfl|exact Km hk rfl|exact Qa rfl rfl rfl|rfl)) ?_|(first|refine cl (hsg _) ?_|refine cl (k1 _ rfl) ?_)|refine sq ?_)))
   (all_goals try exact om)
   refine Ju.mk (GWP.drawM mixed 53 [5] (fun H=> [H.set 0 (.cells true [iV 0,Qn [],iV 0,.sc (.slice none 0 0)])]) (by kernel_rfl) (by rfl) ?_)
   repeat' (first|with_reducible refine And.intro ?_ ?_|(with_reducible intro hc;(try simp only [zz] at hc);try exact ct)|exact trivial|((conv=>whnf);first|with_reducible refine And.intro ?_ ?_|with_reducible intro hx|exact Is.mk rfl rfl|exact trivial|(with_reducible first|apply Val.via|apply Qk.via)|fail|refine sp ?_|refine vx (by (first|exact Ql rfl rfl|exact Km hk rfl|exact Qa rfl rfl rfl|rfl)) ?_|fail|refine sq ?_))
   (all_goals try exact om)
   all_goals exact Qg.mk (fz _ e1)
  ·simp only
   rw [if_neg he]
   have he:e1=0:=by omega
   subst he
   refine Qc.go Tryz.func19 rfl ?_
   (repeat' (first|with_reducible refine And.intro ?_ ?_|(with_reducible intro hc;(try simp only [zz] at hc);try exact ct)|((conv=>whnf);first|(with_reducible first|refine And.intro ?_ ?_|intro hx|apply Val.via|apply Qk.via)|exact Is.mk rfl rfl|refine sp ?_|refine vx (by (first|exact Ql rfl rfl|exact Km hk rfl|exact Qa rfl rfl rfl|rfl)) ?_|(first|refine cl (hsg _) ?_|refine cl (k1 _ rfl) ?_)|refine sq ?_)))
   (all_goals try exact om)
   (refine Ju.mk (GWP.loopB [3] (fun (a:Nat×List (List UInt8))=>a.1≤ks.length∧dupB a.2 (ks.drop a.1)=dupB [] ks) (fun a=> [(39,iV a.1)]) (fun a=> [(3,.map (a.2.map strK) (a.2.map ttK))]) 4 (fun a=>ks.length - a.1) (0,[]) ⟨Nat.zero_le _,by simp⟩ ?_);(conv=>whnf);refine And.intro ?_ ?_)
   ·focus (refine ka [] ?_ ?_;all_goals (repeat' (first|exact trivial|(refine And.intro ?_ ?_)|(refine Exists.intro _ (And.intro rfl ?_))|(refine Jx.map ?_)|(refine Jx.opt ?_)|(refine Jx.toOpt ?_)|(refine Jx.cells ?_)|exact Jx.defs|exact Qe.nil|(refine Qe.cons ?_ ?_)|(first|fail|exact rv)|(with_unfolding_all exact (rfl:(_:VObj)=_)))))
   rintro ⟨i,seen⟩ ⟨g1,g2⟩
   simp only at g1 g2 ⊢
   by_cases hil:i < ks.length
   ·obtain ⟨kd,hk⟩:=Z4 hil
    obtain ⟨op,tx,nm,kk⟩:=kd
    have hd:ks.drop i= .mk op tx nm kk::ks.drop (i+1):=by
     obtain ⟨hi,e⟩:=List.getElem?_eq_some_iff.1 hk
     rw [List.drop_eq_getElem_cons hi,e]
    rw [hd] at g2
    cases hcn:seen.contains tx with
    | true =>
     rw [dupB_yes hcn] at g2
     have lk:=fun {o:Oper} {ts:List VV} {H:Heap} {K:VV→Heap→Prop} {b i j:Nat} (ho:o.op= .lookup 117 (.tmp i) (.tmp j) false) (h1:Qh ts (.tmp i)= .mp b) (h2:Qh ts (.tmp j)=Qn tx) (hg:H.get b=some (.map (seen.map strK) (seen.map ttK))) (k:K (Xk true) H)=>(Qr.lookB ho h1 h2 hg (by rw [hcn];exact k):Qr Tryz.prog o ts H K)
     rw [← g2]
     simp only [resP]
     (repeat' (first|with_reducible refine And.intro ?_ ?_|(with_reducible intro hc;(try simp only [zz] at hc);try exact ct)|((conv=>whnf);first|(with_reducible first|refine And.intro ?_ ?_|intro hx|apply Val.via|apply Qk.via)|exact Is.mk rfl rfl|(refine Qw (lk rfl rfl rfl rfl ?_))|refine sp ?_|refine vx (by (first|exact Ql rfl rfl|exact Km hk rfl|exact Qa rfl rfl rfl|rfl)) ?_|fail|refine sq ?_)))
     (all_goals try exact om)
     all_goals exact Qg.mk (fz _ 5)
    | false =>
     rw [dupB_no hcn] at g2
     have lk:=fun {o:Oper} {ts:List VV} {H:Heap} {K:VV→Heap→Prop} {b i j:Nat} (ho:o.op= .lookup 117 (.tmp i) (.tmp j) false) (h1:Qh ts (.tmp i)= .mp b) (h2:Qh ts (.tmp j)=Qn tx) (hg:H.get b=some (.map (seen.map strK) (seen.map ttK))) (k:K (Xk false) H)=>(Qr.lookB ho h1 h2 hg (by rw [hcn];exact k):Qr Tryz.prog o ts H K)
     (repeat' (first|with_reducible refine And.intro ?_ ?_|(with_reducible intro hc;(try simp only [zz] at hc);try exact ct)|((conv=>whnf);first|(with_reducible first|refine And.intro ?_ ?_|intro hx|apply Val.via|apply Qk.via)|exact Is.mk rfl rfl|(first|refine Qw (lk rfl rfl rfl rfl ?_)|refine Qw (Qr.mupdB (seen:=seen) (tx:=tx) rfl rfl rfl rfl hcn ?_))|refine sp ?_|refine vx (by (first|exact Ql rfl rfl|exact Km hk rfl|exact Qa rfl rfl rfl|rfl)) ?_|fail|refine sq ?_)))
     (all_goals try exact om)
     focus (refine Qg.mk ⟨(i+1,seen++ [tx]),⟨by simp only;omega,g2⟩,?_,ka [] ?_ ?_⟩;(first|omega|(simp only;omega));all_goals (repeat' (first|exact trivial|(refine And.intro ?_ ?_)|(refine Exists.intro _ (And.intro rfl ?_))|(refine Jx.map ?_)|(refine Jx.opt ?_)|(refine Jx.toOpt ?_)|(refine Jx.cells ?_)|exact Jx.defs|exact Qe.nil|(refine Qe.cons ?_ ?_)|(first|(first|exact Qe.of (Jf (fun _=>Qb _) _)|exact Qi.eq (Q9 (by omega)) (Qb _))|exact rv)|(with_unfolding_all exact (rfl:(_:VObj)=_)))))
   ·obtain rfl:i=ks.length:=by omega
    rw [List.drop_length,dupB] at g2
    rw [← g2]
    simp only [resP]
    (repeat' (first|with_reducible refine And.intro ?_ ?_|(with_reducible intro hc;(try simp only [zz] at hc);try exact ct)|((conv=>whnf);first|(with_reducible first|refine And.intro ?_ ?_|intro hx|apply Val.via|apply Qk.via)|exact Is.mk rfl rfl|refine sp ?_|refine vx (by (first|exact Ql rfl rfl|exact Km hk rfl|exact Qa rfl rfl rfl|rfl)) ?_|fail|refine sq ?_)))
    (all_goals try exact om)
    all_goals exact Qg.mk (Frz.tp (.cons (.of (Q0 (.mk 0 [] 0 ks))) (.cons (.of (Qb _)) .nil)))
end Go.Proofs.YtpbiblhkcomekaaGreat
