import Derived.Test.YtnmjdjldbloefaaGreatDoorJU4
import Derived.Test.YtnmjdjldbloefaaGreatDoorJE5
/- A tree's signs, walked: operators, blocks, scripts. -/
namespace Go.Proofs.YtnmjdjldbloefaaGreatDoor
open Go Go.RowKit
set_option linter.unusedSimpArgs false
set_option linter.unusedVariables false
set_option maxRecDepth 100000
set_option maxHeartbeats 16000000
theorem sg13 (x:List UInt8) (a b:Nd) (hx:x∈opL (lvO x)) (hoa:OpOk a) (hob:OpOk b) (ha0:tk a≠ []) (hb0:tk b≠ []) (hs:SgOkN a) (hb:SgOkN b) (hl:(tk a).length≤500000) (hl1:(tk b).length≤500000):SgOkN (.mk 13 x 0 [a,b]):=fun H=>by
 have hle:=lvO_le x
 have hra:raO (lvO x)≤100:=by unfold raO;split <;> omega
 have kr:=fun H=>rank13_call x hx 0 [a,b] H
 have ka:=fun H=>inner_call a (raO (lvO x)) hra hoa ha0 (by omega) hs H
 have kb:=fun H=>inner_call b (lvO x+1) (by omega) hob hb0 (by omega) hb H
 have la:(tkI (raO (lvO x)) a).length≤1000000:=by
  unfold tkI sgI
  rw [List.length_map,brG_len]
  have:(sgN a).length=(tk a).length:=by unfold tk;rw [List.length_map]
  split <;> omega
 have lb:(tkI (lvO x+1) b).length≤1000000:=by
  unfold tkI sgI
  rw [List.length_map,brG_len]
  have:(sgN b).length=(tk b).length:=by unfold tk;rw [List.length_map]
  split <;> omega
 (refine VCall.frozen (Q:=fun w K=>Frz K w (roT (tk (.mk 13 x 0 [a,b])))) (by simp [nameless_nV]) ?_ (fun _ _ h=>h))
 rw [tk13]
 generalize tkI (raO (lvO x)) a=xs at *
 generalize tkI (lvO x+1) b=ys at *
 have hk0: [a,b][0]? = some a:=rfl
 have hk1: [a,b][1]? = some b:=rfl
 have hlen: [a,b].length=2:=rfl
 rw [nV,cellsN]
 rw [nV,cellsN] at kr
 generalize [a,b]=ks at *
 obtain ⟨op,tx,nm,k2⟩:=a
 obtain ⟨op1,tx1,nm1,b2⟩:=b
 by_cases h2:lvO x=2
 ·rw [h2] at kr ka kb
  have ka: ∀ H,VCall Tryz.prog 54 [nV (.mk op tx nm k2),.sc (.int .i64 3)] H (fun v K=>v=roT xs∧K=H):=ka
  have kb: ∀ H,VCall Tryz.prog 54 [nV (.mk op1 tx1 nm1 b2),.sc (.int .i64 3)] H (fun v K=>v=roT ys∧K=H):=kb
  have kr: ∀ H,VCall Tryz.prog 53 _ H (fun v K=>v= .sc (.int .i64 2)∧K=H):=kr
  simp only [nV,cellsN,roT] at ka kb
  (refine VCall.go Tryz.func26 rfl ?_)
  (repeat' (first|with_reducible refine And.intro ?_ ?_|((with_reducible intro hc);(try simp only [zA,zB,zC,zD,zE,zF,zG,zH,zI,zJ,zK,zL,zM,zN,zO,zP,zQ,zR,zS,zT,zU,zV,zW] at hc);(first|exact absurd rfl hc|exact absurd trivial hc|(exfalso;omega)|skip))|exact Is.mk rfl rfl|((conv=>whnf);first|with_reducible refine And.intro ?_ ?_|with_reducible intro hx|exact Is.mk rfl rfl|(with_reducible first|apply Val.via|apply ValH.via)|refine ifB_intro ?_ ?_|refine xA (by omega) ?_|(refine xB ?_;intro kw hk1 hk2)|refine xC (by omega) ?_|refine xD ?_|refine xE (by omega) ?_|refine xF (by omega) ?_|refine xG ?_|refine xH ?_|refine xI (by omega) ?_|refine xJ (by omega) ?_|(with_reducible refine stopA ?_)|refine Exists.intro _ (And.intro (by (first|exact vat_nd rfl rfl|exact vat_rowsN hk0 rfl|exact vat_rowsN hk1 rfl|exact vat_of rfl rfl rfl|rfl)) ?_)|(first|(refine stopO (GOp'.grow0 rfl sty_T (d:= .slice 9) Tryz.underlying69 (by intro k h;cases h) (.inl rfl) (m:=1) (l:= [strV x]) (by intro y;first|exact velems_T _ _|rfl) (by first|exact one_T _|rfl) (by omega) (by omega) ?_))|(refine stopO (GOp'.grow rfl sty_T (d:= .slice 9) Tryz.underlying69 (by intro k h;cases h) rfl (m:=1) (l:= [strV x]) (by first|exact velems_T _ _|rfl) (by first|exact one_T _|rfl) rfl (by first|(simp;done)|(simp;omega)) (by omega) (by omega) ?_))|(refine stopO (GOp'.grow0 rfl sty_T (d:= .slice 9) Tryz.underlying69 (by intro k h;cases h) (.inl rfl) (m:=xs.length) (l:=xs.map strV) (by intro y;first|exact velems_T _ _|rfl) (by first|exact one_T _|rfl) (by omega) (by omega) ?_))|(refine stopO (GOp'.grow rfl sty_T (d:= .slice 9) Tryz.underlying69 (by intro k h;cases h) rfl (m:=xs.length) (l:=xs.map strV) (by first|exact velems_T _ _|rfl) (by first|exact one_T _|rfl) rfl (by first|(simp;done)|(simp;omega)) (by omega) (by omega) ?_))|(refine stopO (GOp'.grow0 rfl sty_T (d:= .slice 9) Tryz.underlying69 (by intro k h;cases h) (.inl rfl) (m:=ys.length) (l:=ys.map strV) (by intro y;first|exact velems_T _ _|rfl) (by first|exact one_T _|rfl) (by omega) (by omega) ?_))|(refine stopO (GOp'.grow rfl sty_T (d:= .slice 9) Tryz.underlying69 (by intro k h;cases h) rfl (m:=ys.length) (l:=ys.map strV) (by first|exact velems_T _ _|rfl) (by first|exact one_T _|rfl) rfl (by first|(simp;done)|(simp;omega)) (by omega) (by omega) ?_)))|refine GOp.drawn (by rfl) (by rfl) (Nat.le_of_ble_eq_true (by rfl)) (by rfl)|refine GOp.via (by rfl) ?_|refine GWP.drawY mixed _ (by kernel_rfl) (by rfl) ?_|(first|(refine GCall.mk (VCall.inl Tryz.func49 rfl ?_))|(refine GCall.mk ((kr _).mono ?_);rintro _ _ ⟨rfl,rfl⟩)|(refine GCall.mk ((ka _).mono ?_);rintro _ _ ⟨rfl,rfl⟩)|(refine GCall.mk ((kb _).mono ?_);rintro _ _ ⟨rfl,rfl⟩))|(with_reducible first|refine stopO ?_|refine stopE ?_|refine stopD ?_|refine stopW ?_|refine stopG ?_|refine stopC ?_|refine stopR ?_))))
  (all_goals (first|omega|contradiction|skip))
  (all_goals exact Done'.mk (frz_gsT rfl (by simp) (by simp;(try omega))))
 ·have hra2:raO (lvO x)=lvO x:=by unfold raO;rw [if_neg h2]
  rw [hra2] at ka
  generalize lvO x=i at *
  have kb: ∀ H,VCall Tryz.prog 54 [nV (.mk op1 tx1 nm1 b2),.sc (.int .i64 ((i:Int)+1))] H (fun v K=>v=roT ys∧K=H):=kb
  simp only [nV,cellsN,roT] at ka kb
  (refine VCall.go Tryz.func26 rfl ?_)
  (repeat' (first|with_reducible refine And.intro ?_ ?_|((with_reducible intro hc);(try simp only [zA,zB,zC,zD,zE,zF,zG,zH,zI,zJ,zK,zL,zM,zN,zO,zP,zQ,zR,zS,zT,zU,zV,zW] at hc);(first|exact absurd rfl hc|exact absurd trivial hc|(exfalso;omega)|skip))|exact Is.mk rfl rfl|((conv=>whnf);first|with_reducible refine And.intro ?_ ?_|with_reducible intro hx|exact Is.mk rfl rfl|(with_reducible first|apply Val.via|apply ValH.via)|refine ifB_intro ?_ ?_|refine xA (by omega) ?_|(refine xB ?_;intro kw hk1 hk2)|refine xC (by omega) ?_|refine xD ?_|refine xE (by omega) ?_|refine xF (by omega) ?_|refine xG ?_|refine xH ?_|refine xI (by omega) ?_|refine xJ (by omega) ?_|(with_reducible refine stopA ?_)|refine Exists.intro _ (And.intro (by (first|exact vat_nd rfl rfl|exact vat_rowsN hk0 rfl|exact vat_rowsN hk1 rfl|exact vat_of rfl rfl rfl|rfl)) ?_)|(first|(refine stopO (GOp'.grow0 rfl sty_T (d:= .slice 9) Tryz.underlying69 (by intro k h;cases h) (.inl rfl) (m:=1) (l:= [strV x]) (by intro y;first|exact velems_T _ _|rfl) (by first|exact one_T _|rfl) (by omega) (by omega) ?_))|(refine stopO (GOp'.grow rfl sty_T (d:= .slice 9) Tryz.underlying69 (by intro k h;cases h) rfl (m:=1) (l:= [strV x]) (by first|exact velems_T _ _|rfl) (by first|exact one_T _|rfl) rfl (by first|(simp;done)|(simp;omega)) (by omega) (by omega) ?_))|(refine stopO (GOp'.grow0 rfl sty_T (d:= .slice 9) Tryz.underlying69 (by intro k h;cases h) (.inl rfl) (m:=xs.length) (l:=xs.map strV) (by intro y;first|exact velems_T _ _|rfl) (by first|exact one_T _|rfl) (by omega) (by omega) ?_))|(refine stopO (GOp'.grow rfl sty_T (d:= .slice 9) Tryz.underlying69 (by intro k h;cases h) rfl (m:=xs.length) (l:=xs.map strV) (by first|exact velems_T _ _|rfl) (by first|exact one_T _|rfl) rfl (by first|(simp;done)|(simp;omega)) (by omega) (by omega) ?_))|(refine stopO (GOp'.grow0 rfl sty_T (d:= .slice 9) Tryz.underlying69 (by intro k h;cases h) (.inl rfl) (m:=ys.length) (l:=ys.map strV) (by intro y;first|exact velems_T _ _|rfl) (by first|exact one_T _|rfl) (by omega) (by omega) ?_))|(refine stopO (GOp'.grow rfl sty_T (d:= .slice 9) Tryz.underlying69 (by intro k h;cases h) rfl (m:=ys.length) (l:=ys.map strV) (by first|exact velems_T _ _|rfl) (by first|exact one_T _|rfl) rfl (by first|(simp;done)|(simp;omega)) (by omega) (by omega) ?_)))|refine GOp.drawn (by rfl) (by rfl) (Nat.le_of_ble_eq_true (by rfl)) (by rfl)|refine GOp.via (by rfl) ?_|refine GWP.drawY mixed _ (by kernel_rfl) (by rfl) ?_|(first|(refine GCall.mk (VCall.inl Tryz.func49 rfl ?_))|(refine GCall.mk ((kr _).mono ?_);rintro _ _ ⟨rfl,rfl⟩)|(refine GCall.mk ((ka _).mono ?_);rintro _ _ ⟨rfl,rfl⟩)|(refine GCall.mk ((kb _).mono ?_);rintro _ _ ⟨rfl,rfl⟩))|(with_reducible first|refine stopO ?_|refine stopE ?_|refine stopD ?_|refine stopW ?_|refine stopG ?_|refine stopC ?_|refine stopR ?_))))
  (all_goals (first|omega|contradiction|skip))
  (all_goals exact Done'.mk (frz_gsT rfl (by simp) (by simp;(try omega))))
end Go.Proofs.YtnmjdjldbloefaaGreatDoor
namespace Go.Proofs.YtnmjdjldbloefaaGreatDoor
open Go Go.RowKit
set_option linter.unusedSimpArgs false
set_option linter.unusedVariables false
set_option maxRecDepth 100000
set_option maxHeartbeats 16000000
theorem flat_nd {l:List Nd} {i:Nat} {k:Nd} (h:l[i]? = some k):((l.take (i+1)).map tk).flatten=((l.take i).map tk).flatten++tk k:=by
 rw [take_nd h,List.flatten_append]
 simp
theorem sg0 (ks:List Nd) (hs: ∀ k∈ks,SgOkN k) (hM:sumT ks≤1000000) (hn:ks.length≤1000000):SgOkN (.mk 0 [] 0 ks):=fun H=>by
 (refine VCall.frozen (Q:=fun w K=>Frz K w (roT (tk (.mk 0 [] 0 ks)))) (by simp [nameless_nV]) ?_ (fun _ _ h=>h))
 rw [tk0,nV,cellsN]
 have hk0:True:=trivial
 (refine VCall.go Tryz.func26 rfl ?_)
 (repeat' (first|with_reducible refine And.intro ?_ ?_|((with_reducible intro hc);(try simp only [zA,zB,zC,zD,zE,zF,zG,zH,zI,zJ,zK,zL,zM,zN,zO,zP,zQ,zR,zS,zT,zU,zV,zW] at hc);(first|exact absurd rfl hc|exact absurd trivial hc|(exfalso;omega)|skip))|exact Is.mk rfl rfl|((conv=>whnf);first|with_reducible refine And.intro ?_ ?_|with_reducible intro hx|exact Is.mk rfl rfl|(with_reducible first|apply Val.via|apply ValH.via)|refine ifB_intro ?_ ?_|refine xA (by omega) ?_|(refine xB ?_;intro kw hk1 hk2)|refine xC (by omega) ?_|refine xD ?_|refine xE (by omega) ?_|refine xF (by omega) ?_|refine xG ?_|refine xH ?_|refine xI (by omega) ?_|refine xJ (by omega) ?_|(with_reducible refine stopA ?_)|refine Exists.intro _ (And.intro (by (first|exact vat_nd rfl rfl|exact vat_rowsN hk0 rfl|exact vat_of rfl rfl rfl|rfl)) ?_)|fail|refine GOp.drawn (by rfl) (by rfl) (Nat.le_of_ble_eq_true (by rfl)) (by rfl)|refine GOp.via (by rfl) ?_|refine GWP.drawY mixed _ (by kernel_rfl) (by rfl) ?_|fail|(with_reducible first|refine stopO ?_|refine stopE ?_|refine stopD ?_|refine stopW ?_|refine stopG ?_|refine stopC ?_|refine stopR ?_))))
 (all_goals (first|omega|contradiction|skip))
 (refine GWP'.mk (GWP.loopB [1] (fun (a:Nat×List (List UInt8))=>a.1≤ks.length∧a.2=((ks.take a.1).map tk).flatten∧a.2.length+sumT (ks.drop a.1)≤sumT ks) (fun a=> [(20,iV a.1)]) (fun a=> [(1,.cells true [.gs 2 a.2.length 1]),(2,.opt (a.2.map strV))]) 3 (fun a=>ks.length - a.1) (0,[]) ⟨Nat.zero_le _,rfl,by simp⟩ ?_);(conv=>whnf);refine And.intro ?_ ?_)
 ·focus (refine KeptA.of [] rfl rfl (by repeat' (first|exact trivial|refine And.intro rfl ?_)) rfl ?_ ?_;all_goals (repeat' (first|exact trivial|(refine And.intro ?_ ?_)|(refine Exists.intro _ (And.intro rfl ?_))|(refine RenO.opt ?_)|(refine RenO.toOpt ?_)|(refine RenO.cells ?_)|exact RenO.defs|exact RenL.nil|(refine RenL.cons ?_ ?_)|(first|fail|(with_reducible exact RenV.sc)|exact RenV.gsN|exact RenV.gsZ|exact RenV.gsL (by decide)|exact RenV.slL (by decide)|((first|refine RenV.gsE (by (first|exact mhA|exact mhB|exact mhC|(simp;done))) ?_|refine RenV.eq (scI_eq ?_) (nameless_sc _));(first|rfl|omega|(simp only [List.length_append,List.length_cons,List.length_nil,List.length_map,List.length_take,List.length_drop] <;> omega)|(simp only <;> omega)|(simp <;> omega)))|exact RenV.undef)|(with_unfolding_all exact (rfl:(_:VObj)=_)))))
 rintro ⟨i,out⟩ ⟨g1,g2,g3⟩
 simp only at g1 g2 g3 ⊢
 by_cases hil:i < ks.length
 ·obtain ⟨kd,hk0⟩:=list_at hil
  have kc:=fun H=>hs kd (List.mem_of_getElem? hk0) H
  have hnx:=flat_nd hk0
  rw [← g2] at hnx
  have hsm:sumT (ks.drop i)=(tk kd).length+1+sumT (ks.drop (i+1)):=by rw [dropN_at hk0];rfl
  generalize hxs:tk kd=xs at *
  obtain ⟨op,tx,nm,kk⟩:=kd
  simp only [nV,cellsN,roT] at kc
  (repeat' (first|with_reducible refine And.intro ?_ ?_|((with_reducible intro hc);(try simp only [zA,zB,zC,zD,zE,zF,zG,zH,zI,zJ,zK,zL,zM,zN,zO,zP,zQ,zR,zS,zT,zU,zV,zW] at hc);(first|exact absurd rfl hc|exact absurd trivial hc|(exfalso;omega)|skip))|exact Is.mk rfl rfl|((conv=>whnf);first|with_reducible refine And.intro ?_ ?_|with_reducible intro hx|exact Is.mk rfl rfl|(with_reducible first|apply Val.via|apply ValH.via)|refine ifB_intro ?_ ?_|refine xA (by omega) ?_|(refine xB ?_;intro kw hk1 hk2)|refine xC (by omega) ?_|refine xD ?_|refine xE (by omega) ?_|refine xF (by omega) ?_|refine xG ?_|refine xH ?_|refine xI (by omega) ?_|refine xJ (by omega) ?_|(with_reducible refine stopA ?_)|refine Exists.intro _ (And.intro (by (first|exact vat_nd rfl rfl|exact vat_rowsN hk0 rfl|exact vat_of rfl rfl rfl|rfl)) ?_)|(first|(refine stopO (GOp'.grow rfl sty_T (d:= .slice 9) Tryz.underlying69 (by intro k h;cases h) rfl (m:=xs.length) (l:=xs.map strV) (by first|exact velems_T _ _|rfl) (by first|exact one_T _|rfl) rfl (by first|(simp;done)|(simp;omega)) (by omega) (by omega) ?_)))|refine GOp.drawn (by rfl) (by rfl) (Nat.le_of_ble_eq_true (by rfl)) (by rfl)|refine GOp.via (by rfl) ?_|refine GWP.drawY mixed _ (by kernel_rfl) (by rfl) ?_|(first|(refine GCall.mk (VCall.inl Tryz.func49 rfl ?_))|(refine GCall.mk ((kc _).mono ?_);rintro _ _ ⟨rfl,rfl⟩))|(with_reducible first|refine stopO ?_|refine stopE ?_|refine stopD ?_|refine stopW ?_|refine stopG ?_|refine stopC ?_|refine stopR ?_))))
  (all_goals (first|omega|contradiction|skip))
  focus (refine Done'.mk ⟨(i+1,out++xs),⟨by simp only;omega,hnx.symm,by simp only [List.length_append];omega⟩,?_,KeptA.of [(4,2)] rfl rfl (by repeat' (first|exact trivial|refine And.intro rfl ?_)) rfl ?_ ?_⟩;(first|omega|(simp only;omega));all_goals (repeat' (first|exact trivial|(refine And.intro ?_ ?_)|(refine Exists.intro _ (And.intro rfl ?_))|(refine RenO.opt ?_)|(refine RenO.toOpt ?_)|(refine RenO.cells ?_)|exact RenO.defs|exact RenL.nil|(refine RenL.cons ?_ ?_)|(first|(first|exact RenV.eq (scI_eq (by omega)) (nameless_sc _)|exact RenL.eq (by simp) (nameless_map nameless_strV _))|(with_reducible exact RenV.sc)|exact RenV.gsN|exact RenV.gsZ|exact RenV.gsL (by decide)|exact RenV.slL (by decide)|((first|refine RenV.gsE (by (first|exact mhA|exact mhB|exact mhC|(simp;done))) ?_|refine RenV.eq (scI_eq ?_) (nameless_sc _));(first|rfl|omega|(simp only [List.length_append,List.length_cons,List.length_nil,List.length_map,List.length_take,List.length_drop] <;> omega)|(simp only <;> omega)|(simp <;> omega)))|exact RenV.undef)|(with_unfolding_all exact (rfl:(_:VObj)=_)))))
 ·obtain rfl:i=ks.length:=by omega
  rw [List.take_length] at g2
  (repeat' (first|with_reducible refine And.intro ?_ ?_|((with_reducible intro hc);(try simp only [zA,zB,zC,zD,zE,zF,zG,zH,zI,zJ,zK,zL,zM,zN,zO,zP,zQ,zR,zS,zT,zU,zV,zW] at hc);(first|exact absurd rfl hc|exact absurd trivial hc|(exfalso;omega)|skip))|exact Is.mk rfl rfl|((conv=>whnf);first|with_reducible refine And.intro ?_ ?_|with_reducible intro hx|exact Is.mk rfl rfl|(with_reducible first|apply Val.via|apply ValH.via)|refine ifB_intro ?_ ?_|refine xA (by omega) ?_|(refine xB ?_;intro kw hk1 hk2)|refine xC (by omega) ?_|refine xD ?_|refine xE (by omega) ?_|refine xF (by omega) ?_|refine xG ?_|refine xH ?_|refine xI (by omega) ?_|refine xJ (by omega) ?_|(with_reducible refine stopA ?_)|refine Exists.intro _ (And.intro (by (first|exact vat_nd rfl rfl|exact vat_rowsN hk0 rfl|exact vat_of rfl rfl rfl|rfl)) ?_)|fail|refine GOp.drawn (by rfl) (by rfl) (Nat.le_of_ble_eq_true (by rfl)) (by rfl)|refine GOp.via (by rfl) ?_|refine GWP.drawY mixed _ (by kernel_rfl) (by rfl) ?_|fail|(with_reducible first|refine stopO ?_|refine stopE ?_|refine stopD ?_|refine stopW ?_|refine stopG ?_|refine stopC ?_|refine stopR ?_))))
  (all_goals (first|omega|contradiction|skip))
  all_goals exact Done'.mk (frz_gsT rfl (by rw [g2]) (by rw [g2]))
theorem sg2 (ks:List Nd) (hs: ∀ k∈ks,SgOkN k) (hM:sumT ks≤1000000) (hn:ks.length≤1000000):SgOkN (.mk 2 [] 0 ks):=fun H=>by
 (refine VCall.frozen (Q:=fun w K=>Frz K w (roT (tk (.mk 2 [] 0 ks)))) (by simp [nameless_nV]) ?_ (fun _ _ h=>h))
 rw [tk2,nV,cellsN]
 have hk0:True:=trivial
 (refine VCall.go Tryz.func26 rfl ?_)
 (repeat' (first|with_reducible refine And.intro ?_ ?_|((with_reducible intro hc);(try simp only [zA,zB,zC,zD,zE,zF,zG,zH,zI,zJ,zK,zL,zM,zN,zO,zP,zQ,zR,zS,zT,zU,zV,zW] at hc);(first|exact absurd rfl hc|exact absurd trivial hc|(exfalso;omega)|skip))|exact Is.mk rfl rfl|((conv=>whnf);first|with_reducible refine And.intro ?_ ?_|with_reducible intro hx|exact Is.mk rfl rfl|(with_reducible first|apply Val.via|apply ValH.via)|refine ifB_intro ?_ ?_|refine xA (by omega) ?_|(refine xB ?_;intro kw hk1 hk2)|refine xC (by omega) ?_|refine xD ?_|refine xE (by omega) ?_|refine xF (by omega) ?_|refine xG ?_|refine xH ?_|refine xI (by omega) ?_|refine xJ (by omega) ?_|(with_reducible refine stopA ?_)|refine Exists.intro _ (And.intro (by (first|exact vat_nd rfl rfl|exact vat_rowsN hk0 rfl|exact vat_of rfl rfl rfl|rfl)) ?_)|(first|(refine stopO (GOp'.grow0 rfl sty_T (d:= .slice 9) Tryz.underlying69 (by intro k h;cases h) (.inl rfl) (m:=1) (l:= [strV [123]]) (by intro y;first|exact velems_T _ _|rfl) (by first|exact one_T _|rfl) (by omega) (by omega) ?_))|(refine stopO (GOp'.grow rfl sty_T (d:= .slice 9) Tryz.underlying69 (by intro k h;cases h) rfl (m:=1) (l:= [strV [123]]) (by first|exact velems_T _ _|rfl) (by first|exact one_T _|rfl) rfl (by first|(simp;done)|(simp;omega)) (by omega) (by omega) ?_)))|refine GOp.drawn (by rfl) (by rfl) (Nat.le_of_ble_eq_true (by rfl)) (by rfl)|refine GOp.via (by rfl) ?_|refine GWP.drawY mixed _ (by kernel_rfl) (by rfl) ?_|(refine GCall.mk (VCall.inl Tryz.func49 rfl ?_))|(with_reducible first|refine stopO ?_|refine stopE ?_|refine stopD ?_|refine stopW ?_|refine stopG ?_|refine stopC ?_|refine stopR ?_))))
 (all_goals (first|omega|contradiction|skip))
 (refine GWP'.mk (GWP.loopB [1,4] (fun (a:Nat×List (List UInt8))=>a.1≤ks.length∧a.2= [[123]]++((ks.take a.1).map tk).flatten∧a.2.length+sumT (ks.drop a.1)≤1+sumT ks) (fun a=> [(66,iV a.1)]) (fun a=> [(1,.cells true [.gs 5 a.2.length 1]),(5,.opt (a.2.map strV))]) 6 (fun a=>ks.length - a.1) (0,[[123]]) ⟨Nat.zero_le _,rfl,by simp⟩ ?_);(conv=>whnf);refine And.intro ?_ ?_)
 ·focus (refine KeptA.of [(4,5)] rfl rfl (by repeat' (first|exact trivial|refine And.intro rfl ?_)) rfl ?_ ?_;all_goals (repeat' (first|exact trivial|(refine And.intro ?_ ?_)|(refine Exists.intro _ (And.intro rfl ?_))|(refine RenO.opt ?_)|(refine RenO.toOpt ?_)|(refine RenO.cells ?_)|exact RenO.defs|exact RenL.nil|(refine RenL.cons ?_ ?_)|(first|exact RenV.eq rfl (nameless_strV _)|(with_reducible exact RenV.sc)|exact RenV.gsN|exact RenV.gsZ|exact RenV.gsL (by decide)|exact RenV.slL (by decide)|((first|refine RenV.gsE (by (first|exact mhA|exact mhB|exact mhC|(simp;done))) ?_|refine RenV.eq (scI_eq ?_) (nameless_sc _));(first|rfl|omega|(simp only [List.length_append,List.length_cons,List.length_nil,List.length_map,List.length_take,List.length_drop] <;> omega)|(simp only <;> omega)|(simp <;> omega)))|exact RenV.undef)|(with_unfolding_all exact (rfl:(_:VObj)=_)))))
 rintro ⟨i,out⟩ ⟨g1,g2,g3⟩
 simp only at g1 g2 g3 ⊢
 by_cases hil:i < ks.length
 ·obtain ⟨kd,hk0⟩:=list_at hil
  have kc:=fun H=>hs kd (List.mem_of_getElem? hk0) H
  have hnx:=congrArg ([[123]]++ ·) (flat_nd hk0)
  simp only [← List.append_assoc] at hnx
  rw [← g2] at hnx
  have hsm:sumT (ks.drop i)=(tk kd).length+1+sumT (ks.drop (i+1)):=by rw [dropN_at hk0];rfl
  generalize hxs:tk kd=xs at *
  obtain ⟨op,tx,nm,kk⟩:=kd
  simp only [nV,cellsN,roT] at kc
  (repeat' (first|with_reducible refine And.intro ?_ ?_|((with_reducible intro hc);(try simp only [zA,zB,zC,zD,zE,zF,zG,zH,zI,zJ,zK,zL,zM,zN,zO,zP,zQ,zR,zS,zT,zU,zV,zW] at hc);(first|exact absurd rfl hc|exact absurd trivial hc|(exfalso;omega)|skip))|exact Is.mk rfl rfl|((conv=>whnf);first|with_reducible refine And.intro ?_ ?_|with_reducible intro hx|exact Is.mk rfl rfl|(with_reducible first|apply Val.via|apply ValH.via)|refine ifB_intro ?_ ?_|refine xA (by omega) ?_|(refine xB ?_;intro kw hk1 hk2)|refine xC (by omega) ?_|refine xD ?_|refine xE (by omega) ?_|refine xF (by omega) ?_|refine xG ?_|refine xH ?_|refine xI (by omega) ?_|refine xJ (by omega) ?_|(with_reducible refine stopA ?_)|refine Exists.intro _ (And.intro (by (first|exact vat_nd rfl rfl|exact vat_rowsN hk0 rfl|exact vat_of rfl rfl rfl|rfl)) ?_)|(first|(refine stopO (GOp'.grow rfl sty_T (d:= .slice 9) Tryz.underlying69 (by intro k h;cases h) rfl (m:=xs.length) (l:=xs.map strV) (by first|exact velems_T _ _|rfl) (by first|exact one_T _|rfl) rfl (by first|(simp;done)|(simp;omega)) (by omega) (by omega) ?_)))|refine GOp.drawn (by rfl) (by rfl) (Nat.le_of_ble_eq_true (by rfl)) (by rfl)|refine GOp.via (by rfl) ?_|refine GWP.drawY mixed _ (by kernel_rfl) (by rfl) ?_|(first|(refine GCall.mk (VCall.inl Tryz.func49 rfl ?_))|(refine GCall.mk ((kc _).mono ?_);rintro _ _ ⟨rfl,rfl⟩))|(with_reducible first|refine stopO ?_|refine stopE ?_|refine stopD ?_|refine stopW ?_|refine stopG ?_|refine stopC ?_|refine stopR ?_))))
  (all_goals (first|omega|contradiction|skip))
  focus (refine Done'.mk ⟨(i+1,out++xs),⟨by simp only;omega,hnx.symm,by simp only [List.length_append];omega⟩,?_,KeptA.of [(7,5)] rfl rfl (by repeat' (first|exact trivial|refine And.intro rfl ?_)) rfl ?_ ?_⟩;(first|omega|(simp only;omega));all_goals (repeat' (first|exact trivial|(refine And.intro ?_ ?_)|(refine Exists.intro _ (And.intro rfl ?_))|(refine RenO.opt ?_)|(refine RenO.toOpt ?_)|(refine RenO.cells ?_)|exact RenO.defs|exact RenL.nil|(refine RenL.cons ?_ ?_)|(first|(first|exact RenV.eq (scI_eq (by omega)) (nameless_sc _)|exact RenL.eq (by simp) (nameless_map nameless_strV _))|(with_reducible exact RenV.sc)|exact RenV.gsN|exact RenV.gsZ|exact RenV.gsL (by decide)|exact RenV.slL (by decide)|((first|refine RenV.gsE (by (first|exact mhA|exact mhB|exact mhC|(simp;done))) ?_|refine RenV.eq (scI_eq ?_) (nameless_sc _));(first|rfl|omega|(simp only [List.length_append,List.length_cons,List.length_nil,List.length_map,List.length_take,List.length_drop] <;> omega)|(simp only <;> omega)|(simp <;> omega)))|exact RenV.undef)|(with_unfolding_all exact (rfl:(_:VObj)=_)))))
 ·obtain rfl:i=ks.length:=by omega
  rw [List.take_length] at g2
  (repeat' (first|with_reducible refine And.intro ?_ ?_|((with_reducible intro hc);(try simp only [zA,zB,zC,zD,zE,zF,zG,zH,zI,zJ,zK,zL,zM,zN,zO,zP,zQ,zR,zS,zT,zU,zV,zW] at hc);(first|exact absurd rfl hc|exact absurd trivial hc|(exfalso;omega)|skip))|exact Is.mk rfl rfl|((conv=>whnf);first|with_reducible refine And.intro ?_ ?_|with_reducible intro hx|exact Is.mk rfl rfl|(with_reducible first|apply Val.via|apply ValH.via)|refine ifB_intro ?_ ?_|refine xA (by omega) ?_|(refine xB ?_;intro kw hk1 hk2)|refine xC (by omega) ?_|refine xD ?_|refine xE (by omega) ?_|refine xF (by omega) ?_|refine xG ?_|refine xH ?_|refine xI (by omega) ?_|refine xJ (by omega) ?_|(with_reducible refine stopA ?_)|refine Exists.intro _ (And.intro (by (first|exact vat_nd rfl rfl|exact vat_rowsN hk0 rfl|exact vat_of rfl rfl rfl|rfl)) ?_)|(first|(refine stopO (GOp'.grow rfl sty_T (d:= .slice 9) Tryz.underlying69 (by intro k h;cases h) rfl (m:=1) (l:= [strV [125]]) (by first|exact velems_T _ _|rfl) (by first|exact one_T _|rfl) rfl (by first|(simp;done)|(simp;omega)) (by omega) (by omega) ?_)))|refine GOp.drawn (by rfl) (by rfl) (Nat.le_of_ble_eq_true (by rfl)) (by rfl)|refine GOp.via (by rfl) ?_|refine GWP.drawY mixed _ (by kernel_rfl) (by rfl) ?_|(refine GCall.mk (VCall.inl Tryz.func49 rfl ?_))|(with_reducible first|refine stopO ?_|refine stopE ?_|refine stopD ?_|refine stopW ?_|refine stopG ?_|refine stopC ?_|refine stopR ?_))))
  (all_goals (first|omega|contradiction|skip))
  all_goals exact Done'.mk (frz_gsT rfl (by rw [← g2];simp) (by rw [← g2];simp))
theorem sg14 (x:List UInt8) (a:Nd) (hoa:OpOk a) (ha0:tk a≠ []) (hs:SgOkN a) (hl:(tk a).length≤500000):SgOkN (.mk 14 x 0 [a]):=fun H=>by
 have kr:=fun H=>rank14_call x 0 [a] H
 have ka:=fun H=>inner_call a 5 (by omega) hoa ha0 (by omega) hs H
 have la:(tkI 5 a).length≤1000000:=by
  unfold tkI sgI
  rw [List.length_map,brG_len]
  have:(sgN a).length=(tk a).length:=by unfold tk;rw [List.length_map]
  split <;> omega
 (refine VCall.frozen (Q:=fun w K=>Frz K w (roT (tk (.mk 14 x 0 [a])))) (by simp [nameless_nV]) ?_ (fun _ _ h=>h))
 rw [tk14]
 generalize tkI 5 a=xs at *
 have hk0: [a][0]? = some a:=rfl
 have hlen: [a].length=1:=rfl
 rw [nV,cellsN]
 rw [nV,cellsN] at kr
 generalize [a]=ks at *
 obtain ⟨op,tx,nm,k2⟩:=a
 simp only [nV,cellsN,roT] at ka
 (refine VCall.go Tryz.func26 rfl ?_)
 (repeat' (first|with_reducible refine And.intro ?_ ?_|((with_reducible intro hc);(try simp only [zA,zB,zC,zD,zE,zF,zG,zH,zI,zJ,zK,zL,zM,zN,zO,zP,zQ,zR,zS,zT,zU,zV,zW] at hc);(first|exact absurd rfl hc|exact absurd trivial hc|(exfalso;omega)|skip))|exact Is.mk rfl rfl|((conv=>whnf);first|with_reducible refine And.intro ?_ ?_|with_reducible intro hx|exact Is.mk rfl rfl|(with_reducible first|apply Val.via|apply ValH.via)|refine ifB_intro ?_ ?_|refine xA (by omega) ?_|(refine xB ?_;intro kw hk1 hk2)|refine xC (by omega) ?_|refine xD ?_|refine xE (by omega) ?_|refine xF (by omega) ?_|refine xG ?_|refine xH ?_|refine xI (by omega) ?_|refine xJ (by omega) ?_|(with_reducible refine stopA ?_)|refine Exists.intro _ (And.intro (by (first|exact vat_nd rfl rfl|exact vat_rowsN hk0 rfl|exact vat_of rfl rfl rfl|rfl)) ?_)|(first|(refine stopO (GOp'.grow0 rfl sty_T (d:= .slice 9) Tryz.underlying69 (by intro k h;cases h) (.inl rfl) (m:=1) (l:= [strV x]) (by intro y;first|exact velems_T _ _|rfl) (by first|exact one_T _|rfl) (by omega) (by omega) ?_))|(refine stopO (GOp'.grow rfl sty_T (d:= .slice 9) Tryz.underlying69 (by intro k h;cases h) rfl (m:=1) (l:= [strV x]) (by first|exact velems_T _ _|rfl) (by first|exact one_T _|rfl) rfl (by first|(simp;done)|(simp;omega)) (by omega) (by omega) ?_)))|refine GOp.drawn (by rfl) (by rfl) (Nat.le_of_ble_eq_true (by rfl)) (by rfl)|refine GOp.via (by rfl) ?_|(refine GCall.mk (VCall.inl Tryz.func49 rfl ?_))|(with_reducible first|refine stopO ?_|refine stopE ?_|refine stopD ?_|refine stopW ?_|refine stopG ?_|refine stopC ?_|refine stopR ?_))))
 (all_goals (first|omega|contradiction|skip))
 refine GWP'.mk (GWP.drawM mixed 243 [8] (fun H=> [(((H.del 4).add (.opt ([strV x]++xs.map strV))).set 1 (.cells true [.gs H.next (1+xs.length) 1]))]) (by kernel_rfl) (by rfl) ?_)
 repeat' (first|with_reducible refine And.intro ?_ ?_|((with_reducible intro hc);(try simp only [zA,zB,zC,zD,zE,zF,zG,zH,zI,zJ,zK,zL,zM,zN,zO,zP,zQ,zR,zS,zT,zU,zV,zW] at hc);(first|exact absurd rfl hc|exact absurd trivial hc|(exfalso;omega)|skip))|exact Is.mk rfl rfl|exact trivial|((conv=>whnf);first|with_reducible refine And.intro ?_ ?_|with_reducible intro hx|exact Is.mk rfl rfl|exact trivial|(with_reducible first|apply Val.via|apply ValH.via)|refine ifB_intro ?_ ?_|refine xA (by omega) ?_|(refine xB ?_;intro kw hk1 hk2)|refine xC (by omega) ?_|refine xD ?_|refine xE (by omega) ?_|refine xF (by omega) ?_|refine xG ?_|refine xH ?_|refine xI (by omega) ?_|refine xJ (by omega) ?_|(with_reducible refine stopA ?_)|refine Exists.intro _ (And.intro (by (first|exact vat_nd rfl rfl|exact vat_rowsN hk0 rfl|exact vat_of rfl rfl rfl|rfl)) ?_)|(first|(refine stopO (GOp'.grow rfl sty_T (d:= .slice 9) Tryz.underlying69 (by intro k h;cases h) rfl (m:=xs.length) (l:=xs.map strV) (by first|exact velems_T _ _|rfl) (by first|exact one_T _|rfl) rfl (by first|(simp;done)|(simp;omega)) (by omega) (by omega) ?_)))|refine GOp.drawn (by rfl) (by rfl) (Nat.le_of_ble_eq_true (by rfl)) (by rfl)|refine GOp.via (by rfl) ?_|(first|(refine GCall.mk (VCall.inl Tryz.func49 rfl ?_))|(refine GCall.mk ((kr _).mono ?_);rintro _ _ ⟨rfl,rfl⟩)|(refine GCall.mk ((ka _).mono ?_);rintro _ _ ⟨rfl,rfl⟩))|(with_reducible first|refine stopO ?_|refine stopE ?_|refine stopD ?_|refine stopW ?_|refine stopG ?_|refine stopC ?_|refine stopR ?_)))
 (all_goals (first|omega|contradiction|skip))
 (all_goals exact Done'.mk (frz_gsT rfl (by simp) (by simp;(try omega))))
end Go.Proofs.YtnmjdjldbloefaaGreatDoor
