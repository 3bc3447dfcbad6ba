import Derived.Test.YtnmjdjldbloefaaGreatDoorPE5
import Derived.Test.YtnmjdjldbloefaaGreatDoorPU4
/- A tree's signs, walked: operators, blocks, scripts. -/
namespace Go.Proofs.YtnmjdjldbloefaaGreatDoor
open Go Go.RowKit
set_option linter.unusedSimpArgs false
set_option linter.unusedVariables false
set_option maxRecDepth 100000
set_option maxHeartbeats 16000000
theorem sg13 (x:List UInt8) (a b:Nd) (hx:x∈opL (lvO x)) (hoa:OpOk a) (hob:OpOk b) (ha0:tk a≠ []) (hb0:tk b≠ []) (hs:Xo a) (hb:Xo b) (hl:(tk a).length≤500000) (hl1:(tk b).length≤500000):Xo (.mk 13 x 0 [a,b]):=fun H=>by
 have hle:=lvO_le x
 have hra:raO (lvO x)≤100:=by unfold raO;split <;> omega
 have kr:=fun H=>rank13_call x hx 0 [a,b] H
 have ka:=fun H=>Eh a (raO (lvO x)) hra hoa ha0 (by omega) hs H
 have kb:=fun H=>Eh b (lvO x+1) (by omega) hob hb0 (by omega) hb H
 have la:(tkI (raO (lvO x)) a).length≤1000000:=by
  unfold tkI sgI
  rw [List.length_map,Nb]
  have:(sgN a).length=(tk a).length:=by unfold tk;rw [List.length_map]
  split <;> omega
 have lb:(tkI (lvO x+1) b).length≤1000000:=by
  unfold tkI sgI
  rw [List.length_map,Nb]
  have:(sgN b).length=(tk b).length:=by unfold tk;rw [List.length_map]
  split <;> omega
 (refine Qc.frozen (Q:=fun w K=>Frz K w (roT (tk (.mk 13 x 0 [a,b])))) (by simp [Qk]) ?_ (fun _ _ h=>h))
 rw [tk13]
 generalize tkI (raO (lvO x)) a=xs at *
 generalize tkI (lvO x+1) b=ys at *
 have hk0: [a,b][0]? = some a:=rfl
 have hk1: [a,b][1]? = some b:=rfl
 have hlen: [a,b].length=2:=rfl
 rw [nV,cellsN]
 rw [nV,cellsN] at kr
 generalize [a,b]=ks at *
 obtain ⟨op,tx,nm,k2⟩:=a
 obtain ⟨op1,tx1,nm1,b2⟩:=b
 by_cases h2:lvO x=2
 ·rw [h2] at kr ka kb
  have ka: ∀ H,Qc Tryz.prog 54 [nV (.mk op tx nm k2),.sc (.int .i64 3)] H (fun v K=>v=roT xs∧K=H):=ka
  have kb: ∀ H,Qc Tryz.prog 54 [nV (.mk op1 tx1 nm1 b2),.sc (.int .i64 3)] H (fun v K=>v=roT ys∧K=H):=kb
  have kr: ∀ H,Qc Tryz.prog 53 _ H (fun v K=>v= .sc (.int .i64 2)∧K=H):=kr
  simp only [nV,cellsN,roT] at ka kb
  (refine Qc.go Tryz.func26 rfl ?_)
  (repeat' (first|with_reducible refine And.intro ?_ ?_|(with_reducible intro hc;(try simp only [zz] at hc);try exact ct)|((conv=>whnf);first|(with_reducible first|refine And.intro ?_ ?_|intro hx|apply Val.via|apply Qi.via)|exact Is.mk rfl rfl|(first|(refine Qs (Qr.grow0 rfl sty_T (d:= .slice 9) Tryz.underlying69 (by intro k h;cases h) (.inl rfl) (m:=1) (l:= [Qe x]) (by intro y;first|exact Qt _ _|rfl) (by first|exact Je _|rfl) (by omega) (by omega) ?_))|(refine Qs (Qr.grow rfl sty_T (d:= .slice 9) Tryz.underlying69 (by intro k h;cases h) rfl (m:=1) (l:= [Qe x]) (by first|exact Qt _ _|rfl) (by first|exact Je _|rfl) rfl (by first|(simp;done)|(simp;omega)) (by omega) (by omega) ?_))|(refine Qs (Qr.grow0 rfl sty_T (d:= .slice 9) Tryz.underlying69 (by intro k h;cases h) (.inl rfl) (m:=xs.length) (l:=xs.map Qe) (by intro y;first|exact Qt _ _|rfl) (by first|exact Je _|rfl) (by omega) (by omega) ?_))|(refine Qs (Qr.grow rfl sty_T (d:= .slice 9) Tryz.underlying69 (by intro k h;cases h) rfl (m:=xs.length) (l:=xs.map Qe) (by first|exact Qt _ _|rfl) (by first|exact Je _|rfl) rfl (by first|(simp;done)|(simp;omega)) (by omega) (by omega) ?_))|(refine Qs (Qr.grow0 rfl sty_T (d:= .slice 9) Tryz.underlying69 (by intro k h;cases h) (.inl rfl) (m:=ys.length) (l:=ys.map Qe) (by intro y;first|exact Qt _ _|rfl) (by first|exact Je _|rfl) (by omega) (by omega) ?_))|(refine Qs (Qr.grow rfl sty_T (d:= .slice 9) Tryz.underlying69 (by intro k h;cases h) rfl (m:=ys.length) (l:=ys.map Qe) (by first|exact Qt _ _|rfl) (by first|exact Je _|rfl) rfl (by first|(simp;done)|(simp;omega)) (by omega) (by omega) ?_)))|refine sp ?_|refine vx (by (first|exact Qv rfl rfl|exact Q6 hk0 rfl|exact Q6 hk1 rfl|exact Qa rfl rfl rfl|rfl)) ?_|refine dY ?_|(first|(refine Q7.mk (Qc.inl Tryz.func49 rfl ?_))|refine cl (kr _) ?_|refine cl (ka _) ?_|refine cl (kb _) ?_)|refine sq ?_)))
  (all_goals try exact om)
  (all_goals exact Qf.mk (Yk rfl (by simp) (by simp;(try omega))))
 ·have hra2:raO (lvO x)=lvO x:=by unfold raO;rw [if_neg h2]
  rw [hra2] at ka
  generalize lvO x=i at *
  have kb: ∀ H,Qc Tryz.prog 54 [nV (.mk op1 tx1 nm1 b2),.sc (.int .i64 ((i:Int)+1))] H (fun v K=>v=roT ys∧K=H):=kb
  simp only [nV,cellsN,roT] at ka kb
  (refine Qc.go Tryz.func26 rfl ?_)
  (repeat' (first|with_reducible refine And.intro ?_ ?_|(with_reducible intro hc;(try simp only [zz] at hc);try exact ct)|((conv=>whnf);first|(with_reducible first|refine And.intro ?_ ?_|intro hx|apply Val.via|apply Qi.via)|exact Is.mk rfl rfl|(first|(refine Qs (Qr.grow0 rfl sty_T (d:= .slice 9) Tryz.underlying69 (by intro k h;cases h) (.inl rfl) (m:=1) (l:= [Qe x]) (by intro y;first|exact Qt _ _|rfl) (by first|exact Je _|rfl) (by omega) (by omega) ?_))|(refine Qs (Qr.grow rfl sty_T (d:= .slice 9) Tryz.underlying69 (by intro k h;cases h) rfl (m:=1) (l:= [Qe x]) (by first|exact Qt _ _|rfl) (by first|exact Je _|rfl) rfl (by first|(simp;done)|(simp;omega)) (by omega) (by omega) ?_))|(refine Qs (Qr.grow0 rfl sty_T (d:= .slice 9) Tryz.underlying69 (by intro k h;cases h) (.inl rfl) (m:=xs.length) (l:=xs.map Qe) (by intro y;first|exact Qt _ _|rfl) (by first|exact Je _|rfl) (by omega) (by omega) ?_))|(refine Qs (Qr.grow rfl sty_T (d:= .slice 9) Tryz.underlying69 (by intro k h;cases h) rfl (m:=xs.length) (l:=xs.map Qe) (by first|exact Qt _ _|rfl) (by first|exact Je _|rfl) rfl (by first|(simp;done)|(simp;omega)) (by omega) (by omega) ?_))|(refine Qs (Qr.grow0 rfl sty_T (d:= .slice 9) Tryz.underlying69 (by intro k h;cases h) (.inl rfl) (m:=ys.length) (l:=ys.map Qe) (by intro y;first|exact Qt _ _|rfl) (by first|exact Je _|rfl) (by omega) (by omega) ?_))|(refine Qs (Qr.grow rfl sty_T (d:= .slice 9) Tryz.underlying69 (by intro k h;cases h) rfl (m:=ys.length) (l:=ys.map Qe) (by first|exact Qt _ _|rfl) (by first|exact Je _|rfl) rfl (by first|(simp;done)|(simp;omega)) (by omega) (by omega) ?_)))|refine sp ?_|refine vx (by (first|exact Qv rfl rfl|exact Q6 hk0 rfl|exact Q6 hk1 rfl|exact Qa rfl rfl rfl|rfl)) ?_|refine dY ?_|(first|(refine Q7.mk (Qc.inl Tryz.func49 rfl ?_))|refine cl (kr _) ?_|refine cl (ka _) ?_|refine cl (kb _) ?_)|refine sq ?_)))
  (all_goals try exact om)
  (all_goals exact Qf.mk (Yk rfl (by simp) (by simp;(try omega))))
theorem flat_nd {l:List Nd} {i:Nat} {k:Nd} (h:l[i]? = some k):((l.take (i+1)).map tk).flatten=((l.take i).map tk).flatten++tk k:=by
 rw [take_nd h,List.flatten_append]
 simp
theorem sg0 (ks:List Nd) (hs: ∀ k∈ks,Xo k) (hM:Ws ks≤1000000) (hn:ks.length≤1000000):Xo (.mk 0 [] 0 ks):=fun H=>by
 (refine Qc.frozen (Q:=fun w K=>Frz K w (roT (tk (.mk 0 [] 0 ks)))) (by simp [Qk]) ?_ (fun _ _ h=>h))
 rw [tk0,nV,cellsN]
 have hk0:True:=trivial
 (refine Qc.go Tryz.func26 rfl ?_)
 (repeat' (first|with_reducible refine And.intro ?_ ?_|(with_reducible intro hc;(try simp only [zz] at hc);try exact ct)|((conv=>whnf);first|(with_reducible first|refine And.intro ?_ ?_|intro hx|apply Val.via|apply Qi.via)|exact Is.mk rfl rfl|fail|refine sp ?_|refine vx (by (first|exact Qv rfl rfl|exact Q6 hk0 rfl|exact Qa rfl rfl rfl|rfl)) ?_|refine dY ?_|fail|refine sq ?_)))
 (all_goals try exact om)
 (refine Ji.mk (GWP.loopB [1] (fun (a:Nat×List (List UInt8))=>a.1≤ks.length∧a.2=((ks.take a.1).map tk).flatten∧a.2.length+Ws (ks.drop a.1)≤Ws ks) (fun a=> [(20,iV a.1)]) (fun a=> [(1,.cells true [.gs 2 a.2.length 1]),(2,.opt (a.2.map Qe))]) 3 (fun a=>ks.length - a.1) (0,[]) ⟨Nat.zero_le _,rfl,by simp⟩ ?_);(conv=>whnf);refine And.intro ?_ ?_)
 ·focus (refine ka [] ?_ ?_;all_goals (repeat' (first|exact rz|refine And.intro ?_ ?_|refine Exists.intro _ (And.intro rfl ?_)|refine ro ?_|refine Qu.cons ?_ ?_|fail|exact rv)))
 rintro ⟨i,out⟩ ⟨g1,g2,g3⟩
 simp only at g1 g2 g3 ⊢
 by_cases hil:i < ks.length
 ·obtain ⟨kd,hk0⟩:=Ze hil
  have kc:=fun H=>hs kd (List.mem_of_getElem? hk0) H
  have hnx:=flat_nd hk0
  rw [← g2] at hnx
  have hsm:Ws (ks.drop i)=(tk kd).length+1+Ws (ks.drop (i+1)):=by rw [dropN_at hk0];rfl
  generalize hxs:tk kd=xs at *
  obtain ⟨op,tx,nm,kk⟩:=kd
  simp only [nV,cellsN,roT] at kc
  (repeat' (first|with_reducible refine And.intro ?_ ?_|(with_reducible intro hc;(try simp only [zz] at hc);try exact ct)|((conv=>whnf);first|(with_reducible first|refine And.intro ?_ ?_|intro hx|apply Val.via|apply Qi.via)|exact Is.mk rfl rfl|(first|(refine Qs (Qr.grow rfl sty_T (d:= .slice 9) Tryz.underlying69 (by intro k h;cases h) rfl (m:=xs.length) (l:=xs.map Qe) (by first|exact Qt _ _|rfl) (by first|exact Je _|rfl) rfl (by first|(simp;done)|(simp;omega)) (by omega) (by omega) ?_)))|refine sp ?_|refine vx (by (first|exact Qv rfl rfl|exact Q6 hk0 rfl|exact Qa rfl rfl rfl|rfl)) ?_|refine dY ?_|(first|(refine Q7.mk (Qc.inl Tryz.func49 rfl ?_))|refine cl (kc _) ?_)|refine sq ?_)))
  (all_goals try exact om)
  focus (refine Qf.mk ⟨(i+1,out++xs),⟨by simp only;omega,hnx.symm,by simp only [List.length_append];omega⟩,?_,ka [(4,2)] ?_ ?_⟩;(first|omega|(simp only;omega));all_goals (repeat' (first|exact rz|refine And.intro ?_ ?_|refine Exists.intro _ (And.intro rfl ?_)|refine ro ?_|refine Qu.cons ?_ ?_|(first|exact Qn.eq (Qz (by omega)) (Qb _)|exact Qu.eq (by simp) (Jg Qd _))|exact rv)))
 ·obtain rfl:i=ks.length:=by omega
  rw [List.take_length] at g2
  (repeat' (first|with_reducible refine And.intro ?_ ?_|(with_reducible intro hc;(try simp only [zz] at hc);try exact ct)|((conv=>whnf);first|(with_reducible first|refine And.intro ?_ ?_|intro hx|apply Val.via|apply Qi.via)|exact Is.mk rfl rfl|fail|refine sp ?_|refine vx (by (first|exact Qv rfl rfl|exact Q6 hk0 rfl|exact Qa rfl rfl rfl|rfl)) ?_|refine dY ?_|fail|refine sq ?_)))
  (all_goals try exact om)
  all_goals exact Qf.mk (Yk rfl (by rw [g2]) (by rw [g2]))
theorem sg2 (ks:List Nd) (hs: ∀ k∈ks,Xo k) (hM:Ws ks≤1000000) (hn:ks.length≤1000000):Xo (.mk 2 [] 0 ks):=fun H=>by
 (refine Qc.frozen (Q:=fun w K=>Frz K w (roT (tk (.mk 2 [] 0 ks)))) (by simp [Qk]) ?_ (fun _ _ h=>h))
 rw [tk2,nV,cellsN]
 have hk0:True:=trivial
 (refine Qc.go Tryz.func26 rfl ?_)
 (repeat' (first|with_reducible refine And.intro ?_ ?_|(with_reducible intro hc;(try simp only [zz] at hc);try exact ct)|((conv=>whnf);first|(with_reducible first|refine And.intro ?_ ?_|intro hx|apply Val.via|apply Qi.via)|exact Is.mk rfl rfl|(first|(refine Qs (Qr.grow0 rfl sty_T (d:= .slice 9) Tryz.underlying69 (by intro k h;cases h) (.inl rfl) (m:=1) (l:= [Qe [123]]) (by intro y;first|exact Qt _ _|rfl) (by first|exact Je _|rfl) (by omega) (by omega) ?_))|(refine Qs (Qr.grow rfl sty_T (d:= .slice 9) Tryz.underlying69 (by intro k h;cases h) rfl (m:=1) (l:= [Qe [123]]) (by first|exact Qt _ _|rfl) (by first|exact Je _|rfl) rfl (by first|(simp;done)|(simp;omega)) (by omega) (by omega) ?_)))|refine sp ?_|refine vx (by (first|exact Qv rfl rfl|exact Q6 hk0 rfl|exact Qa rfl rfl rfl|rfl)) ?_|refine dY ?_|(refine Q7.mk (Qc.inl Tryz.func49 rfl ?_))|refine sq ?_)))
 (all_goals try exact om)
 (refine Ji.mk (GWP.loopB [1,4] (fun (a:Nat×List (List UInt8))=>a.1≤ks.length∧a.2= [[123]]++((ks.take a.1).map tk).flatten∧a.2.length+Ws (ks.drop a.1)≤1+Ws ks) (fun a=> [(66,iV a.1)]) (fun a=> [(1,.cells true [.gs 5 a.2.length 1]),(5,.opt (a.2.map Qe))]) 6 (fun a=>ks.length - a.1) (0,[[123]]) ⟨Nat.zero_le _,rfl,by simp⟩ ?_);(conv=>whnf);refine And.intro ?_ ?_)
 ·focus (refine ka [(4,5)] ?_ ?_;all_goals (repeat' (first|exact rz|refine And.intro ?_ ?_|refine Exists.intro _ (And.intro rfl ?_)|refine ro ?_|refine Qu.cons ?_ ?_|exact Qn.eq rfl (Qd _)|exact rv)))
 rintro ⟨i,out⟩ ⟨g1,g2,g3⟩
 simp only at g1 g2 g3 ⊢
 by_cases hil:i < ks.length
 ·obtain ⟨kd,hk0⟩:=Ze hil
  have kc:=fun H=>hs kd (List.mem_of_getElem? hk0) H
  have hnx:=congrArg ([[123]]++ ·) (flat_nd hk0)
  simp only [← List.append_assoc] at hnx
  rw [← g2] at hnx
  have hsm:Ws (ks.drop i)=(tk kd).length+1+Ws (ks.drop (i+1)):=by rw [dropN_at hk0];rfl
  generalize hxs:tk kd=xs at *
  obtain ⟨op,tx,nm,kk⟩:=kd
  simp only [nV,cellsN,roT] at kc
  (repeat' (first|with_reducible refine And.intro ?_ ?_|(with_reducible intro hc;(try simp only [zz] at hc);try exact ct)|((conv=>whnf);first|(with_reducible first|refine And.intro ?_ ?_|intro hx|apply Val.via|apply Qi.via)|exact Is.mk rfl rfl|(first|(refine Qs (Qr.grow rfl sty_T (d:= .slice 9) Tryz.underlying69 (by intro k h;cases h) rfl (m:=xs.length) (l:=xs.map Qe) (by first|exact Qt _ _|rfl) (by first|exact Je _|rfl) rfl (by first|(simp;done)|(simp;omega)) (by omega) (by omega) ?_)))|refine sp ?_|refine vx (by (first|exact Qv rfl rfl|exact Q6 hk0 rfl|exact Qa rfl rfl rfl|rfl)) ?_|refine dY ?_|(first|(refine Q7.mk (Qc.inl Tryz.func49 rfl ?_))|refine cl (kc _) ?_)|refine sq ?_)))
  (all_goals try exact om)
  focus (refine Qf.mk ⟨(i+1,out++xs),⟨by simp only;omega,hnx.symm,by simp only [List.length_append];omega⟩,?_,ka [(7,5)] ?_ ?_⟩;(first|omega|(simp only;omega));all_goals (repeat' (first|exact rz|refine And.intro ?_ ?_|refine Exists.intro _ (And.intro rfl ?_)|refine ro ?_|refine Qu.cons ?_ ?_|(first|exact Qn.eq (Qz (by omega)) (Qb _)|exact Qu.eq (by simp) (Jg Qd _))|exact rv)))
 ·obtain rfl:i=ks.length:=by omega
  rw [List.take_length] at g2
  (repeat' (first|with_reducible refine And.intro ?_ ?_|(with_reducible intro hc;(try simp only [zz] at hc);try exact ct)|((conv=>whnf);first|(with_reducible first|refine And.intro ?_ ?_|intro hx|apply Val.via|apply Qi.via)|exact Is.mk rfl rfl|(first|(refine Qs (Qr.grow rfl sty_T (d:= .slice 9) Tryz.underlying69 (by intro k h;cases h) rfl (m:=1) (l:= [Qe [125]]) (by first|exact Qt _ _|rfl) (by first|exact Je _|rfl) rfl (by first|(simp;done)|(simp;omega)) (by omega) (by omega) ?_)))|refine sp ?_|refine vx (by (first|exact Qv rfl rfl|exact Q6 hk0 rfl|exact Qa rfl rfl rfl|rfl)) ?_|refine dY ?_|(refine Q7.mk (Qc.inl Tryz.func49 rfl ?_))|refine sq ?_)))
  (all_goals try exact om)
  all_goals exact Qf.mk (Yk rfl (by rw [← g2];simp) (by rw [← g2];simp))
theorem sg14 (x:List UInt8) (a:Nd) (hoa:OpOk a) (ha0:tk a≠ []) (hs:Xo a) (hl:(tk a).length≤500000):Xo (.mk 14 x 0 [a]):=fun H=>by
 have kr:=fun H=>rank14_call x 0 [a] H
 have ka:=fun H=>Eh a 5 (by omega) hoa ha0 (by omega) hs H
 have la:(tkI 5 a).length≤1000000:=by
  unfold tkI sgI
  rw [List.length_map,Nb]
  have:(sgN a).length=(tk a).length:=by unfold tk;rw [List.length_map]
  split <;> omega
 (refine Qc.frozen (Q:=fun w K=>Frz K w (roT (tk (.mk 14 x 0 [a])))) (by simp [Qk]) ?_ (fun _ _ h=>h))
 rw [tk14]
 generalize tkI 5 a=xs at *
 have hk0: [a][0]? = some a:=rfl
 have hlen: [a].length=1:=rfl
 rw [nV,cellsN]
 rw [nV,cellsN] at kr
 generalize [a]=ks at *
 obtain ⟨op,tx,nm,k2⟩:=a
 simp only [nV,cellsN,roT] at ka
 (refine Qc.go Tryz.func26 rfl ?_)
 (repeat' (first|with_reducible refine And.intro ?_ ?_|(with_reducible intro hc;(try simp only [zz] at hc);try exact ct)|((conv=>whnf);first|(with_reducible first|refine And.intro ?_ ?_|intro hx|apply Val.via|apply Qi.via)|exact Is.mk rfl rfl|(first|(refine Qs (Qr.grow0 rfl sty_T (d:= .slice 9) Tryz.underlying69 (by intro k h;cases h) (.inl rfl) (m:=1) (l:= [Qe x]) (by intro y;first|exact Qt _ _|rfl) (by first|exact Je _|rfl) (by omega) (by omega) ?_))|(refine Qs (Qr.grow rfl sty_T (d:= .slice 9) Tryz.underlying69 (by intro k h;cases h) rfl (m:=1) (l:= [Qe x]) (by first|exact Qt _ _|rfl) (by first|exact Je _|rfl) rfl (by first|(simp;done)|(simp;omega)) (by omega) (by omega) ?_)))|refine sp ?_|refine vx (by (first|exact Qv rfl rfl|exact Q6 hk0 rfl|exact Qa rfl rfl rfl|rfl)) ?_|(refine Q7.mk (Qc.inl Tryz.func49 rfl ?_))|refine sq ?_)))
 (all_goals try exact om)
 refine Ji.mk (GWP.drawM mixed 243 [8] (fun H=> [(((H.del 4).add (.opt ([Qe x]++xs.map Qe))).set 1 (.cells true [.gs H.next (1+xs.length) 1]))]) (by kernel_rfl) (by rfl) ?_)
 repeat' (first|with_reducible refine And.intro ?_ ?_|(with_reducible intro hc;(try simp only [zz] at hc);try exact ct)|exact trivial|((conv=>whnf);first|with_reducible refine And.intro ?_ ?_|with_reducible intro hx|exact Is.mk rfl rfl|exact trivial|(with_reducible first|apply Val.via|apply Qi.via)|(first|(refine Qs (Qr.grow rfl sty_T (d:= .slice 9) Tryz.underlying69 (by intro k h;cases h) rfl (m:=xs.length) (l:=xs.map Qe) (by first|exact Qt _ _|rfl) (by first|exact Je _|rfl) rfl (by first|(simp;done)|(simp;omega)) (by omega) (by omega) ?_)))|refine sp ?_|refine vx (by (first|exact Qv rfl rfl|exact Q6 hk0 rfl|exact Qa rfl rfl rfl|rfl)) ?_|(first|(refine Q7.mk (Qc.inl Tryz.func49 rfl ?_))|refine cl (kr _) ?_|refine cl (ka _) ?_)|refine sq ?_))
 (all_goals try exact om)
 (all_goals exact Qf.mk (Yk rfl (by simp) (by simp;(try omega))))
end Go.Proofs.YtnmjdjldbloefaaGreatDoor
