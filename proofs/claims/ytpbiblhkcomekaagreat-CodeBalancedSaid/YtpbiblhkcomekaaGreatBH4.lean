import Derived.Test.YtpbiblhkcomekaaGreatBE5
import Derived.Test.YtpbiblhkcomekaaGreatBH3
/- A script, walked. -/
namespace Go.Proofs.YtpbiblhkcomekaaGreat
open Go Go.RowKit
set_option linter.unusedSimpArgs false
set_option linter.unusedVariables false
set_option maxRecDepth 100000
set_option maxHeartbeats 8000000
theorem script1_call (s:PSt) (hw:WfL s.l) (hn:s.l.length≤100000):Qc Tryz.prog 74 [.ptr 1 0] ⟨hp2 s,2⟩ (fun v K=>v=nV (varS s).1∧K=⟨hp2 (varS s).2,2⟩):=by
 refine P2.of ?_
 have kn:=fun (H:Heap) (hb:H.get 0=some (pC s))=>Q5.at (Qj _) (by simp) (Nk s hw (by omega)) hb
 have r00:True:=trivial
 refine Qc.go Tryz.func74 rfl ?_
 (repeat' (first|with_reducible refine And.intro ?_ ?_|(with_reducible intro hc;(try simp only [zz] at hc);try exact ct)|((conv=>whnf);first|(with_reducible first|refine And.intro ?_ ?_|intro hx|apply Val.via|apply Qk.via)|exact Is.mk rfl rfl|refine sp ?_|refine vx (by (first|exact Ql rfl rfl|exact Qa rfl r00 rfl|exact Qa rfl rfl rfl|rfl)) ?_|refine cl (kn _ rfl) ?_|refine sq ?_)))
 (all_goals try exact om)
 all_goals exact Qg.mk ⟨Uy 11 (nmS s).1 0,rfl,rfl⟩
theorem onS_rest (s:PSt):Ok (Jk [111,110] s) (onS s).2:=(((Nl _).trans (Xi _ _)).trans (Br _ fun s' _=>B6 s')).trans (Ks _ _)
theorem onS_lt (s:PSt) (h:(onS s).2.e=0):(onS s).2.l.length < s.l.length:=by
 have o:=onS_rest s
 have he:(Jk [111,110] s).e=0:=by
  by_cases hz:(Jk [111,110] s).e=0
  ·exact hz
  ·have:=o.err hz
   omega
 have h1:=(Bp he).1
 have h2:=o.len
 omega
theorem ag4_view {H:Heap} {a b c:VV} {nm n z:Nat} {vs:List VV} (hg:H.get nm=some (.opt vs)) (hl:vs.length=n*z): ∀ B M Z ρ w y,Rel B M Z ρ H w→Qf w Z ρ (.ag [a,b,c,.gs nm n z]) y→Qf w Z ρ (.ag [a,b,c,.ro n vs]) y∨ ∃ k N,ρ nm=some (k,N)∧Qf w (fun j=>Z j∨j=k) ρ (.ag [a,b,c,.ro n vs]) y:=by
 intro B M Z ρ w y hr hv
 cases hv with
 | @ag _ cs h1 r1 =>
  obtain ⟨cs⟩:=cs
  match cs,h1 with
  | [p,q,r,t],_ =>
   have h0:=r1 0 _ _ rfl rfl
   have h2:=r1 1 _ _ rfl rfl
   have h3:=r1 2 _ _ rfl rfl
   rcases gs_view hg hl B M Z ρ w t hr (r1 3 _ _ rfl rfl) with h|⟨k,N,hk,h⟩
   ·exact .inl (Qf.ag' (Pw.cons h0 (Pw.cons h2 (Pw.cons h3 (Pw.cons h Pw.nil)))))
   ·have z: ∀ {v y},Qf w Z ρ v y→Qf w (fun j=>Z j∨j=k) ρ v y:=fun hv=>hv.zmono fun _ h=> .inl h
    exact .inr ⟨k,N,hk,Qf.ag' (Pw.cons (z h0) (Pw.cons (z h2) (Pw.cons (z h3) (Pw.cons h Pw.nil))))⟩
theorem Qr.freezeAg {o:Oper} {ts:List VV} {H:Heap} {K:VV→Heap→Prop} {a b c:VV} {nm n z:Nat} {vs:List VV} (i:Nat) (hi:ts[i]? = some (.ag [a,b,c,.gs nm n z])) (hg:H.get nm=some (.opt vs)) (hl:vs.length=n*z) (h:Qr Tryz.prog o (ts.set i (.ag [a,b,c,.ro n vs])) (H.del nm) K):Qr Tryz.prog o ts H K:=frz_op i hi hg rfl (ag4_view hg hl) h
theorem script_call (s:PSt) (hw:WfL s.l) (hn:s.l.length≤15000) (hd:s.d≤16):Q5 41 [] s (nV (X9 s).1) (X9 s).2:=by
 refine Q5.of ?_
 have ki:=fun (x:List UInt8) (s2:PSt) (h1:WfL s2.l) (h2:s2.l.length≤15000) (H:Heap) (hb:H.get 0=some (pC s2))=>Q5.at (Qb _) (by simp [Qj]) (Ub x s2 h1 (by omega)) hb
 have km:=fun (x:List UInt8) (s2:PSt) (h1:WfL s2.l) (h2:s2.l.length≤15000) (H:Heap) (hb:H.get 0=some (pC s2))=>Q5.at (Qt (by simp)) (by simp [Qj]) (Us x s2 h1 (by omega)) hb
 have kb:=fun (s2:PSt) (h1:WfL s2.l) (h2:s2.l.length≤15000) (h3:s2.d≤16) (H:Heap) (hb:H.get 0=some (pC s2))=>Q5.at (Q0 _) (by simp) (bl_call (s2.l.length+1) (by omega) s2 h1 (Nat.lt_succ_self _) h3) hb
 have kn:=fun (s2:PSt) (h1:WfL s2.l) (h2:s2.l.length≤15000) (H:Heap) (hb:H.get 0=some (pC s2))=>Q5.at (Qj _) (by simp) (Nk s2 h1 (by omega)) hb
 have kv:=fun (s2:PSt) (h1:WfL s2.l) (h2:s2.l.length≤15000) (H:Heap) (g1:H.get 1=some (.cells true [.ptr 0 0])) (g0:H.get 0=some (pC s2)) (hl:Nat.ble 2 H.next=true)=>P2.at (Q0 _) (.cons (Qi.ptr (by simp)) .nil) (script1_call s2 h1 (by omega)) g1 g0 hl
 generalize hR:scLoop (s.l.length+2) [] s=R
 have hR2:X9 s=(.mk 0 [] 0 R.1,R.2):=by unfold X9;rw [hR]
 rw [hR2]
 have r00:True:=trivial
 refine Qc.go Tryz.func41 rfl ?_
 (repeat' (first|with_reducible refine And.intro ?_ ?_|(with_reducible intro hc;(try simp only [zz] at hc);try exact ct)|((conv=>whnf);first|(with_reducible first|refine And.intro ?_ ?_|intro hx|apply Val.via|apply Qk.via)|exact Is.mk rfl rfl|refine sp ?_|refine vx (by (first|exact Ql rfl rfl|exact Qa rfl r00 rfl|exact Qa rfl rfl rfl|rfl)) ?_|fail|refine sq ?_)))
 (all_goals try exact om)
 (refine Ju.mk (GWP.loopB [0,3] (fun (a:Nat×List Nd×PSt)=>scLoop a.1 a.2.1 a.2.2=R∧(a.2.2.e=0→a.2.2.l.length < a.1)∧WfL a.2.2.l∧a.2.2.l.length≤15000∧a.2.2.d≤16∧a.2.1.length+a.1=s.l.length+2) (fun _=> []) (fun a=> [(0,pC a.2.2),(3,.cells true [iV 0,Qn [],iV 0,.gs 4 a.2.1.length 4]),(4,.opt (rowsN a.2.1))]) 5 (fun a=>a.1) (s.l.length+2,[],s) ⟨hR,fun _=>by simp only;omega,hw,hn,hd,by simp only [List.length_nil];omega⟩ ?_);(conv=>whnf);refine And.intro ?_ ?_)
 ·focus (refine ka [] ?_ ?_;all_goals (repeat' (first|exact rz|refine And.intro ?_ ?_|refine Exists.intro _ (And.intro rfl ?_)|refine ro ?_|refine Qe.cons ?_ ?_|(first|exact Y5 _|exact Qi.gsN|exact Qi.gsZ|exact Qi.eq rfl (Jt _)|exact Qi.eq (Q9 (by omega)) (Qb _)|exact Qi.eq rfl (Qb _)|exact Qe.eq (us:=rowsN _) rfl (Qo _)|exact Qi.eq rfl (Qx (Qo _)))|exact rv)))
 rintro ⟨f,out,s0⟩ ⟨g1,g2,g3,g4,g5,g6⟩
 simp only at g1 g2 g3 g4 g5 g6 ⊢
 have fin: ∀ K:Heap,K.get 4=some (.opt (rowsN out))→Wf 1 K (.ag [iV 0,Qn [],iV 0,.gs 4 out.length 4]) (nV (.mk 0 [] 0 out)):=fun K hg=>frz_two 0 [] 0 out rfl hg rfl
 by_cases he:s0.e=0∧endS s0=false
 ·as_aux_lemma =>
  obtain ⟨he,hen⟩:=he
  have g2:=g2 he
  obtain ⟨f,rfl⟩: ∃ f',f=f'+1:=⟨f - 1,by omega⟩
  rw [scLoop,if_pos ⟨he,hen⟩] at g1
  have r00: ∃ kd,(Ya s0.l)[0]? = some (iV kd)∧kd≠0:=by
   obtain ⟨g,a,r,hl⟩:=g3.ne
   unfold endS at hen
   rw [hl] at hen ⊢
   exact ⟨g.kind,rfl,by simpa using hen⟩
  obtain ⟨kd,r00,hkd⟩:=r00
  have hl0:0 < s0.l.length:=by
   obtain ⟨g,a,r,hl⟩:=g3.ne
   rw [hl];simp
  have hlt0:=onS_lt s0
  have k1:=km [111,110] s0 g3 g4
  have o1:=Xi [111,110] s0
  have hon:onS s0=onS s0:=rfl
  conv at hon=>rhs;unfold onS
  generalize Jk [111,110] s0=s1 at *
  have w1:=o1.wf g3
  have l1:=o1.len
  have d1:=o1.dep
  have k2:=kn s1 w1 (by omega)
  have o2:=Nl s1
  cases hq2:nmS s1 with
  | mk x s2 =>
  rw [hq2] at k2 o2 hon
  simp only at k2 o2 hon
  have w2:=o2.wf w1
  have l2:=o2.len
  have d2:=o2.dep
  have k3:=km [40] s2 w2 (by omega)
  have o3:=Xi [40] s2
  generalize Jk [40] s2=s3 at *
  have w3:=o3.wf w2
  have l3:=o3.len
  have d3:=o3.dep
  have k4:=ki [41] s3 w3 (by omega)
  have n4:=Zf (x:= [41]) (s:=s3)
  have o4:=Xv [41] s3
  unfold Y6 at hon
  cases hc4:(isS [41] s3).1 with
  | true =>
   as_aux_lemma =>
   rw [hc4] at k4
   rw [hc4,if_pos rfl] at hon
   generalize (isS [41] s3).2=s4 at *
   simp only at hon
   have w6:=o4.wf w3
   have l6:=o4.len
   have d6:=o4.dep
   (repeat' (first|with_reducible refine And.intro ?_ ?_|(with_reducible intro hc;(try simp only [zz] at hc);try exact ct)|((conv=>whnf);first|(with_reducible first|refine And.intro ?_ ?_|intro hx|apply Val.via|apply Qk.via)|exact Is.mk rfl rfl|refine sp ?_|refine vx (by (first|exact Ql rfl rfl|exact Qa rfl r00 rfl|exact Qa rfl rfl rfl|rfl)) ?_|(first|refine cl (k1 _ rfl) ?_|refine cl (k2 _ rfl) ?_|refine cl (k3 _ rfl) ?_|(refine Xc.mk (Qc.inl Tryz.func73 rfl ?_))|refine cl (k4 _ rfl) ?_)|refine sq ?_)))
   (all_goals try exact om)
   have k6:=kb s4 w6 (by omega) (by omega)
   have o6:=Ks (s4.l.length+1) s4
   generalize blS (s4.l.length+1) s4=q6 at *
   obtain ⟨⟨op6,tx6,nm6,ks6⟩,s6⟩:=q6
   simp only [nV,cellsN] at k6
   simp only at hon
   have hsn:rowsN (out++ [.mk 1 x 0 (([]:List Nd)++ [.mk op6 tx6 nm6 ks6])])=rowsN out++ [iV 1,Qn x,iV 0,.ro 1 [iV op6,Qn tx6,iV nm6,.ro (List.length ks6) (rowsN ks6)]]:=by
    rw [X1,cellsN,X1,cellsN,rowsN]
    rfl
   have w7:WfL s6.l:=o6.wf w6
   have l7:s6.l.length≤s4.l.length:=o6.len
   have d7:s6.d=s4.d:=o6.dep
   refine Ju.mk (GWP.drawM mixed 46 [3,5,7] (fun H=> [⟨(0,pC s6)::Qs [0] H.objs,H.next⟩,⟨(H.next+1,.opt [iV op6,Qn tx6,iV nm6,.ro (List.length ks6) (rowsN ks6)])::(0,pC s6)::Qs [0] H.objs,H.next+2⟩,(⟨(H.next+1,.opt [iV op6,Qn tx6,iV nm6,.ro (List.length ks6) (rowsN ks6)])::(0,pC s6)::Qs [0] H.objs,H.next+2⟩:Heap).set 5 (.cells true [iV 1,Qn x,iV 0,.gs (H.next+1) 1 4])]) (by kernel_rfl) (by rfl) ?_)
   repeat' (first|with_reducible refine And.intro ?_ ?_|(with_reducible intro hc;(try simp only [zz] at hc);try exact ct)|exact trivial|((conv=>whnf);first|with_reducible refine And.intro ?_ ?_|with_reducible intro hx|exact Is.mk rfl rfl|exact trivial|(with_reducible first|apply Val.via|apply Qk.via)|(first|refine GOp.drawn1 (n:= .mk op6 tx6 nm6 ks6) (by rfl) (by rfl) (by rfl)|(refine Qw (Qr.grow0 rfl sty_N (d:= .slice 63) Tryz.underlying61 (by intro k h;cases h) (by exact .inl rfl) (m:=1) (l:= [iV op6,Qn tx6,iV nm6,.ro (List.length ks6) (rowsN ks6)]) (fun y=>rfl) (by rfl) (by decide) (by decide) ?_))|(refine Qw (Qr.freezeAg 41 rfl rfl (by first|exact Jd _|rfl|(simp only [List.length_append,Jd,List.length_cons,List.length_nil];omega)) (Qr.via (by rfl) ?_))))|refine sp ?_|refine vx (by (first|exact Ql rfl rfl|exact Qa rfl r00 rfl|exact Qa rfl rfl rfl|rfl)) ?_|(first|refine cl (k6 _ rfl) ?_|(refine Qw (Qr.grow0 rfl sty_N (d:= .slice 63) Tryz.underlying61 (by intro k h;cases h) (by exact .inl rfl) (m:=1) (l:= [iV op6,Qn tx6,iV nm6,.ro (List.length ks6) (rowsN ks6)]) (fun y=>rfl) (by rfl) (by decide) (by decide) ?_))|(refine Qw (Qr.grow rfl sty_N (d:= .slice 63) Tryz.underlying61 (by intro k h;cases h) rfl (m:=1) (l:= [iV 1,Qn x,iV 0,.ro 1 [iV op6,Qn tx6,iV nm6,.ro (List.length ks6) (rowsN ks6)]]) (by rfl) (by rfl) rfl (Jd out) (by omega) (by omega) ?_)))|refine sq ?_))
   (all_goals try exact om)
   focus (refine Qg.mk ⟨(f,out++ [.mk 1 x 0 (([]:List Nd)++ [.mk op6 tx6 nm6 ks6])],s6),⟨by rw [hon] at g1;exact g1,fun h=>by have:=hlt0 (by rw [hon];exact h);rw [hon] at this;simp only at this ⊢;omega,w7,by simp only;omega,by simp only;omega,by simp only [List.length_append,List.length_cons,List.length_nil];omega⟩,?_,ka [(9,4)] ?_ ?_⟩;(first|omega|(simp only;omega));all_goals (repeat' (first|exact rz|refine And.intro ?_ ?_|refine Exists.intro _ (And.intro rfl ?_)|refine ro ?_|refine Qe.cons ?_ ?_|(first|exact Qe.eq hsn.symm (Qo _)|(first|exact Y5 _|exact Qi.gsN|exact Qi.gsZ|exact Qi.eq rfl (Jt _)|exact Qi.eq (Q9 (by omega)) (Qb _)|exact Qi.eq rfl (Qb _)|exact Qe.eq (us:=rowsN _) rfl (Qo _)|exact Qi.eq rfl (Qx (Qo _))))|exact rv)))
  | false =>
   as_aux_lemma =>
   rw [hc4,n4 hc4] at k4
   rw [hc4,if_neg (by decide)] at hon
   (repeat' (first|with_reducible refine And.intro ?_ ?_|(with_reducible intro hc;(try simp only [zz] at hc);try exact ct)|((conv=>whnf);first|(with_reducible first|refine And.intro ?_ ?_|intro hx|apply Val.via|apply Qk.via)|exact Is.mk rfl rfl|refine sp ?_|refine vx (by (first|exact Ql rfl rfl|exact Qa rfl r00 rfl|exact Qa rfl rfl rfl|rfl)) ?_|(first|refine cl (k1 _ rfl) ?_|refine cl (k2 _ rfl) ?_|refine cl (k3 _ rfl) ?_|(refine Xc.mk (Qc.inl Tryz.func73 rfl ?_))|refine cl (k4 _ rfl) ?_)|refine sq ?_)))
   (all_goals try exact om)
   generalize hQ:Xu varS (s3.l.length+2) [] s3=Q at hon
   have hl3:s3.l.length≤15000:=by omega
   have hd3:s3.d≤16:=by omega
   (refine Ju.mk (GWP.loopB [0] (fun (a:Nat×List Nd×PSt)=>Xu varS a.1 a.2.1 a.2.2=Q∧(a.2.2.e=0→a.2.2.l.length < a.1)∧WfL a.2.2.l∧a.2.2.l.length≤s3.l.length∧a.2.2.d≤16∧a.2.1.length+a.1=s3.l.length+2) (fun a=> [(5,.gs 6 a.2.1.length 4)]) (fun a=> [(0,pC a.2.2),(6,.opt (rowsN a.2.1))]) 7 (fun a=>a.1) (s3.l.length+2,[],s3) ⟨hQ,fun _=>by simp only;omega,w3,Nat.le_refl _,hd3,by simp only [List.length_nil];omega⟩ ?_);(conv=>whnf);refine And.intro ?_ ?_)
   ·focus (refine ka [] ?_ ?_;all_goals (repeat' (first|exact rz|refine And.intro ?_ ?_|refine Exists.intro _ (And.intro rfl ?_)|refine ro ?_|refine Qe.cons ?_ ?_|(first|exact Y5 _|exact Qi.gsN|exact Qi.gsZ|exact Qi.eq rfl (Jt _)|exact Qi.eq (Q9 (by omega)) (Qb _)|exact Qi.eq rfl (Qb _)|exact Qe.eq (us:=rowsN _) rfl (Qo _)|exact Qi.eq rfl (Qx (Qo _)))|exact rv)))
   rintro ⟨f2,ks,st⟩ ⟨m1,m2,m3,m4,m5,m6⟩
   simp only at m1 m2 m3 m4 m5 m6 ⊢
   by_cases he2:st.e=0
   ·have m2:=m2 he2
    obtain ⟨f2,rfl⟩: ∃ f',f2=f'+1:=⟨f2 - 1,by omega⟩
    rw [Xu,if_pos he2] at m1
    have k5:=kv st m3 (by omega)
    have o5:=B6 st
    cases hq5:varS st with
    | mk n5 s5 =>
    rw [hq5] at k5 o5 m1
    obtain ⟨op5,tx5,nm5,ks5⟩:=n5
    have w5:=o5.wf m3
    have l5:=o5.len
    have d5:=o5.dep
    simp only [nV,cellsN] at k5 m1 w5 l5 d5
    have k7:=ki [41] s5 w5 (by omega)
    have n7:=Zf (x:= [41]) (s:=s5)
    have hsk:rowsN (ks++ [.mk op5 tx5 nm5 ks5])=rowsN ks++ [iV op5,Qn tx5,iV nm5,.ro (List.length ks5) (rowsN ks5)]:=by rw [X1,cellsN]
    cases hc7:(isS [41] s5).1 with
    | true =>
     as_aux_lemma =>
     rw [hc7] at k7
     rw [hc7,if_pos rfl] at m1
     subst m1
     have o7:=Xv [41] s5
     generalize (isS [41] s5).2=s8 at *
     have w6:=o7.wf w5
     have l6:=o7.len
     have d6:=o7.dep
     (repeat' (first|with_reducible refine And.intro ?_ ?_|(with_reducible intro hc;(try simp only [zz] at hc);try exact ct)|((conv=>whnf);first|(with_reducible first|refine And.intro ?_ ?_|intro hx|apply Val.via|apply Qk.via)|exact Is.mk rfl rfl|refine sp ?_|refine vx (by (first|exact Ql rfl rfl|exact Qa rfl r00 rfl|exact Qa rfl rfl rfl|rfl)) ?_|(first|refine cl (k5 _ rfl rfl rfl) ?_|refine cl (k7 _ rfl) ?_|(refine Qw (Qr.grow rfl sty_N (d:= .slice 63) Tryz.underlying61 (by intro k h;cases h) rfl (m:=1) (l:= [iV op5,Qn tx5,iV nm5,.ro (List.length ks5) (rowsN ks5)]) (by rfl) (by rfl) rfl (Jd ks) (by omega) (by omega) ?_)))|refine sq ?_)))
     (all_goals try exact om)
     have k6:=kb s8 w6 (by omega) (by omega)
     have o6:=Ks (s8.l.length+1) s8
     generalize blS (s8.l.length+1) s8=q6 at *
     obtain ⟨⟨op6,tx6,nm6,ks6⟩,s6⟩:=q6
     simp only [nV,cellsN] at k6
     simp only at hon
     have hsn:rowsN (out++ [.mk 1 x 0 ((ks++ [.mk op5 tx5 nm5 ks5])++ [.mk op6 tx6 nm6 ks6])])=rowsN out++ [iV 1,Qn x,iV 0,.ro ((List.length ks+1)+1) ((rowsN ks++ [iV op5,Qn tx5,iV nm5,.ro (List.length ks5) (rowsN ks5)])++ [iV op6,Qn tx6,iV nm6,.ro (List.length ks6) (rowsN ks6)])]:=by
      rw [X1,cellsN,X1,cellsN,hsk,List.length_append,List.length_append]
      rfl
     have w7:WfL s6.l:=o6.wf w6
     have l7:s6.l.length≤s8.l.length:=o6.len
     have d7:s6.d=s8.d:=o6.dep
     refine Ju.mk (GWP.drawM mixed 46 [3,5,7] (fun H=> [⟨(0,pC s6)::Qs [0] H.objs,H.next⟩,((⟨(0,pC s6)::Qs [0] H.objs,H.next⟩:Heap).del 8).add (.opt ((rowsN ks++ [iV op5,Qn tx5,iV nm5,.ro (List.length ks5) (rowsN ks5)])++ [iV op6,Qn tx6,iV nm6,.ro (List.length ks6) (rowsN ks6)])),(((⟨(0,pC s6)::Qs [0] H.objs,H.next⟩:Heap).del 8).add (.opt ((rowsN ks++ [iV op5,Qn tx5,iV nm5,.ro (List.length ks5) (rowsN ks5)])++ [iV op6,Qn tx6,iV nm6,.ro (List.length ks6) (rowsN ks6)]))).set 5 (.cells true [iV 1,Qn x,iV 0,.gs H.next ((List.length ks+1)+1) 4])]) (by kernel_rfl) (by rfl) ?_)
     repeat' (first|with_reducible refine And.intro ?_ ?_|(with_reducible intro hc;(try simp only [zz] at hc);try exact ct)|exact trivial|((conv=>whnf);first|with_reducible refine And.intro ?_ ?_|with_reducible intro hx|exact Is.mk rfl rfl|exact trivial|(with_reducible first|apply Val.via|apply Qk.via)|(first|refine GOp.drawn1 (n:= .mk op6 tx6 nm6 ks6) (by rfl) (by rfl) (by rfl)|(refine Qw (Qr.grow0 rfl sty_N (d:= .slice 63) Tryz.underlying61 (by intro k h;cases h) (by exact .inl rfl) (m:=1) (l:= [iV op6,Qn tx6,iV nm6,.ro (List.length ks6) (rowsN ks6)]) (fun y=>rfl) (by rfl) (by decide) (by decide) ?_))|(refine Qw (Qr.freezeAg 41 rfl rfl (by first|exact Jd _|rfl|(simp only [List.length_append,Jd,List.length_cons,List.length_nil];omega)) (Qr.via (by rfl) ?_))))|refine sp ?_|refine vx (by (first|exact Ql rfl rfl|exact Qa rfl r00 rfl|exact Qa rfl rfl rfl|rfl)) ?_|(first|refine cl (k6 _ rfl) ?_|(refine Qw (Qr.grow rfl sty_N (d:= .slice 63) Tryz.underlying61 (by intro k h;cases h) rfl (m:=1) (l:= [iV op6,Qn tx6,iV nm6,.ro (List.length ks6) (rowsN ks6)]) (by rfl) (by rfl) rfl (by first|exact Jd _|(simp only [List.length_append,Jd,List.length_cons,List.length_nil];omega)) (by omega) (by omega) ?_))|(refine Qw (Qr.grow rfl sty_N (d:= .slice 63) Tryz.underlying61 (by intro k h;cases h) rfl (m:=1) (l:= [iV 1,Qn x,iV 0,.ro ((List.length ks+1)+1) ((rowsN ks++ [iV op5,Qn tx5,iV nm5,.ro (List.length ks5) (rowsN ks5)])++ [iV op6,Qn tx6,iV nm6,.ro (List.length ks6) (rowsN ks6)])]) (by rfl) (by rfl) rfl (Jd out) (by omega) (by omega) ?_)))|refine sq ?_))
     (all_goals try exact om)
     focus (refine Qg.mk ⟨(f,out++ [.mk 1 x 0 ((ks++ [.mk op5 tx5 nm5 ks5])++ [.mk op6 tx6 nm6 ks6])],s6),⟨by rw [hon] at g1;exact g1,fun h=>by have:=hlt0 (by rw [hon];exact h);rw [hon] at this;simp only at this ⊢;omega,w7,by simp only;omega,by simp only;omega,by simp only [List.length_append,List.length_cons,List.length_nil];omega⟩,?_,ka [(11,4)] ?_ ?_⟩;(first|omega|(simp only;omega));all_goals (repeat' (first|exact rz|refine And.intro ?_ ?_|refine Exists.intro _ (And.intro rfl ?_)|refine ro ?_|refine Qe.cons ?_ ?_|(first|exact Qe.eq hsn.symm (Qo _)|(first|exact Y5 _|exact Qi.gsN|exact Qi.gsZ|exact Qi.eq rfl (Jt _)|exact Qi.eq (Q9 (by omega)) (Qb _)|exact Qi.eq rfl (Qb _)|exact Qe.eq (us:=rowsN _) rfl (Qo _)|exact Qi.eq rfl (Qx (Qo _))))|exact rv)))
    | false =>
     as_aux_lemma =>
     rw [hc7,n7 hc7] at k7
     rw [hc7,if_neg (by decide)] at m1
     have k8:=km [44] s5 w5 (by omega)
     have o8:=Xi [44] s5
     have ml:=Bp (x:= [44]) (s:=s5)
     generalize Jk [44] s5=s8 at *
     have w8:=o8.wf w5
     have l8:=o8.len
     have d8:=o8.dep
     (repeat' (first|with_reducible refine And.intro ?_ ?_|(with_reducible intro hc;(try simp only [zz] at hc);try exact ct)|((conv=>whnf);first|(with_reducible first|refine And.intro ?_ ?_|intro hx|apply Val.via|apply Qk.via)|exact Is.mk rfl rfl|refine sp ?_|refine vx (by (first|exact Ql rfl rfl|exact Qa rfl r00 rfl|exact Qa rfl rfl rfl|rfl)) ?_|(first|refine cl (k5 _ rfl rfl rfl) ?_|refine cl (k7 _ rfl) ?_|refine cl (k8 _ rfl) ?_|(refine Qw (Qr.grow rfl sty_N (d:= .slice 63) Tryz.underlying61 (by intro k h;cases h) rfl (m:=1) (l:= [iV op5,Qn tx5,iV nm5,.ro (List.length ks5) (rowsN ks5)]) (by rfl) (by rfl) rfl (Jd ks) (by omega) (by omega) ?_)))|refine sq ?_)))
     (all_goals try exact om)
     focus (refine Qg.mk ⟨(f2,ks++ [.mk op5 tx5 nm5 ks5],s8),⟨m1,fun h=>by have:=(ml h).1;simp only;omega,w8,by simp only;omega,by simp only;omega,by simp only [List.length_append,List.length_cons,List.length_nil];omega⟩,?_,ka [(8,6)] ?_ ?_⟩;(first|omega|(simp only;omega));all_goals (repeat' (first|exact rz|refine And.intro ?_ ?_|refine Exists.intro _ (And.intro rfl ?_)|refine ro ?_|refine Qe.cons ?_ ?_|(first|exact Qe.eq hsk.symm (Qo _)|(first|exact Y5 _|exact Qi.gsN|exact Qi.gsZ|exact Qi.eq rfl (Jt _)|exact Qi.eq (Q9 (by omega)) (Qb _)|exact Qi.eq rfl (Qb _)|exact Qe.eq (us:=rowsN _) rfl (Qo _)|exact Qi.eq rfl (Qx (Qo _))))|exact rv)))
   ·have hx:(ks,st)=Q:=by
     rw [← m1]
     cases f2 with
     | zero=>rfl
     | succ f2=>rw [Xu,if_neg he2]
    subst hx
    simp only at hon
    have w6:=m3
    (repeat' (first|with_reducible refine And.intro ?_ ?_|(with_reducible intro hc;(try simp only [zz] at hc);try exact ct)|((conv=>whnf);first|(with_reducible first|refine And.intro ?_ ?_|intro hx|apply Val.via|apply Qk.via)|exact Is.mk rfl rfl|refine sp ?_|refine vx (by (first|exact Ql rfl rfl|exact Qa rfl r00 rfl|exact Qa rfl rfl rfl|rfl)) ?_|fail|refine sq ?_)))
    (all_goals try exact om)
    have k6:=kb st w6 (by omega) (by omega)
    have o6:=Ks (st.l.length+1) st
    generalize blS (st.l.length+1) st=q6 at *
    obtain ⟨⟨op6,tx6,nm6,ks6⟩,s6⟩:=q6
    simp only [nV,cellsN] at k6
    simp only at hon
    have hsn:rowsN (out++ [.mk 1 x 0 (ks++ [.mk op6 tx6 nm6 ks6])])=rowsN out++ [iV 1,Qn x,iV 0,.ro (List.length ks+1) (rowsN ks++ [iV op6,Qn tx6,iV nm6,.ro (List.length ks6) (rowsN ks6)])]:=by
     rw [X1,cellsN,X1,cellsN,List.length_append]
     rfl
    have w7:WfL s6.l:=o6.wf w6
    have l7:s6.l.length≤st.l.length:=o6.len
    have d7:s6.d=st.d:=o6.dep
    refine Ju.mk (GWP.drawM mixed 46 [3,5,7] (fun H=> [⟨(0,pC s6)::Qs [0] H.objs,H.next⟩,((⟨(0,pC s6)::Qs [0] H.objs,H.next⟩:Heap).del 6).add (.opt (rowsN ks++ [iV op6,Qn tx6,iV nm6,.ro (List.length ks6) (rowsN ks6)])),(((⟨(0,pC s6)::Qs [0] H.objs,H.next⟩:Heap).del 6).add (.opt (rowsN ks++ [iV op6,Qn tx6,iV nm6,.ro (List.length ks6) (rowsN ks6)]))).set 5 (.cells true [iV 1,Qn x,iV 0,.gs H.next (List.length ks+1) 4])]) (by kernel_rfl) (by rfl) ?_)
    repeat' (first|with_reducible refine And.intro ?_ ?_|(with_reducible intro hc;(try simp only [zz] at hc);try exact ct)|exact trivial|((conv=>whnf);first|with_reducible refine And.intro ?_ ?_|with_reducible intro hx|exact Is.mk rfl rfl|exact trivial|(with_reducible first|apply Val.via|apply Qk.via)|(first|refine GOp.drawn1 (n:= .mk op6 tx6 nm6 ks6) (by rfl) (by rfl) (by rfl)|(refine Qw (Qr.grow0 rfl sty_N (d:= .slice 63) Tryz.underlying61 (by intro k h;cases h) (by exact .inl rfl) (m:=1) (l:= [iV op6,Qn tx6,iV nm6,.ro (List.length ks6) (rowsN ks6)]) (fun y=>rfl) (by rfl) (by decide) (by decide) ?_))|(refine Qw (Qr.freezeAg 41 rfl rfl (by first|exact Jd _|rfl|(simp only [List.length_append,Jd,List.length_cons,List.length_nil];omega)) (Qr.via (by rfl) ?_))))|refine sp ?_|refine vx (by (first|exact Ql rfl rfl|exact Qa rfl r00 rfl|exact Qa rfl rfl rfl|rfl)) ?_|(first|refine cl (k6 _ rfl) ?_|(refine Qw (Qr.grow rfl sty_N (d:= .slice 63) Tryz.underlying61 (by intro k h;cases h) rfl (m:=1) (l:= [iV op6,Qn tx6,iV nm6,.ro (List.length ks6) (rowsN ks6)]) (by rfl) (by rfl) rfl (by first|exact Jd _|(simp only [List.length_append,Jd,List.length_cons,List.length_nil];omega)) (by omega) (by omega) ?_))|(refine Qw (Qr.grow rfl sty_N (d:= .slice 63) Tryz.underlying61 (by intro k h;cases h) rfl (m:=1) (l:= [iV 1,Qn x,iV 0,.ro (List.length ks+1) (rowsN ks++ [iV op6,Qn tx6,iV nm6,.ro (List.length ks6) (rowsN ks6)])]) (by rfl) (by rfl) rfl (Jd out) (by omega) (by omega) ?_)))|refine sq ?_))
    (all_goals try exact om)
    focus (refine Qg.mk ⟨(f,out++ [.mk 1 x 0 (ks++ [.mk op6 tx6 nm6 ks6])],s6),⟨by rw [hon] at g1;exact g1,fun h=>by have:=hlt0 (by rw [hon];exact h);rw [hon] at this;simp only at this ⊢;omega,w7,by simp only;omega,by simp only;omega,by simp only [List.length_append,List.length_cons,List.length_nil];omega⟩,?_,ka [(9,4)] ?_ ?_⟩;(first|omega|(simp only;omega));all_goals (repeat' (first|exact rz|refine And.intro ?_ ?_|refine Exists.intro _ (And.intro rfl ?_)|refine ro ?_|refine Qe.cons ?_ ?_|(first|exact Qe.eq hsn.symm (Qo _)|(first|exact Y5 _|exact Qi.gsN|exact Qi.gsZ|exact Qi.eq rfl (Jt _)|exact Qi.eq (Q9 (by omega)) (Qb _)|exact Qi.eq rfl (Qb _)|exact Qe.eq (us:=rowsN _) rfl (Qo _)|exact Qi.eq rfl (Qx (Qo _))))|exact rv)))
 ·have hx:(out,s0)=R:=by
   rw [← g1]
   cases f with
   | zero=>rfl
   | succ f=>rw [scLoop,if_neg he]
  subst hx
  by_cases he0:s0.e=0
  ·have hen:endS s0=true:=by
    cases h:endS s0 with
    | true=>rfl
    | false=>exact absurd ⟨he0,h⟩ he
   have r00:(Ya s0.l)[0]? = some (iV 0):=by
    obtain ⟨g,a,r,hl⟩:=g3.ne
    unfold endS at hen
    rw [hl] at hen ⊢
    have:g.kind=0:=by simpa using hen
    show some (iV g.kind)=_
    rw [this]
    rfl
   have hl0:0 < s0.l.length:=by
    obtain ⟨g,a,r,hl⟩:=g3.ne
    rw [hl];simp
   (repeat' (first|with_reducible refine And.intro ?_ ?_|(with_reducible intro hc;(try simp only [zz] at hc);try exact ct)|((conv=>whnf);first|(with_reducible first|refine And.intro ?_ ?_|intro hx|apply Val.via|apply Qk.via)|exact Is.mk rfl rfl|refine sp ?_|refine vx (by (first|exact Ql rfl rfl|exact Qa rfl r00 rfl|exact Qa rfl rfl rfl|rfl)) ?_|fail|refine sq ?_)))
   (all_goals try exact om)
   all_goals exact Qg.mk ⟨fin _ rfl,rfl⟩
  ·(repeat' (first|with_reducible refine And.intro ?_ ?_|(with_reducible intro hc;(try simp only [zz] at hc);try exact ct)|((conv=>whnf);first|(with_reducible first|refine And.intro ?_ ?_|intro hx|apply Val.via|apply Qk.via)|exact Is.mk rfl rfl|refine sp ?_|refine vx (by (first|exact Ql rfl rfl|exact Qa rfl r00 rfl|exact Qa rfl rfl rfl|rfl)) ?_|fail|refine sq ?_)))
   (all_goals try exact om)
   all_goals exact Qg.mk ⟨fin _ rfl,rfl⟩
end Go.Proofs.YtpbiblhkcomekaaGreat
