import Derived.Test.YtnmjdjldbloefaaGreatDoorJU3
/- A tree's signs, walked: each kind of node. -/
namespace Go.Proofs.YtnmjdjldbloefaaGreatDoor
open Go Go.RowKit
set_option linter.unusedSimpArgs false
set_option linter.unusedVariables false
set_option maxRecDepth 100000
set_option maxHeartbeats 8000000
def ItoaOk:Prop:= ∀ v:Nat,v≤2147483648→ ∀ H,VCall Tryz.prog 51 [iV v] H (fun x K=>x=strV (Lib.decDigits v)∧K=H)
def QuoteOk:Prop:= ∀ x:List UInt8,x.length≤1500→ ∀ H,VCall Tryz.prog 52 [strV x] H (fun v K=>v=strV (quoteB x)∧K=H)
def SgOkN (n:Nd):Prop:= ∀ H,VCall Tryz.prog 26 [nV n] H (fun v K=>v=roT (tk n)∧K=H)
theorem tk8 (v:Nat):tk (.mk 8 [] v [])= [Lib.decDigits v]:=by unfold tk;rw [sgN_mk];rfl
theorem tk9 (x:List UInt8):tk (.mk 9 x 0 [])= [quoteB x]:=by unfold tk;rw [sgN_mk];rfl
theorem tk10:tk (.mk 10 [] 0 [])= [[110,105,108]]:=by unfold tk;rw [sgN_mk];rfl
theorem tk11 (x:List UInt8):tk (.mk 11 x 0 [])= [x]:=by unfold tk;rw [sgN_mk];rfl
theorem tk7:tk (.mk 7 [] 0 [])= [[115,116,111,112],[59]]:=by unfold tk;rw [sgN_mk];rfl
theorem tk3 (x:List UInt8) (k:Nd):tk (.mk 3 x 0 [k])= [x,[61]]++tk k++ [[59]]:=by unfold tk;rw [sgN_mk];simp [bldG];exact ⟨rfl,rfl,rfl⟩
theorem tk4 (k:Nd):tk (.mk 4 [] 0 [k])=tk k++ [[59]]:=by unfold tk;rw [sgN_mk];simp [bldG];rfl
theorem tk52 (k b:Nd):tk (.mk 5 [] 0 [k,b])= [[105,102]]++tk k++tk b:=by unfold tk;rw [sgN_mk];simp [bldG];rfl
theorem tk53 (k b c:Nd):tk (.mk 5 [] 0 [k,b,c])= [[105,102]]++tk k++tk b++ [[101,108,115,101]]++tk c:=by unfold tk;rw [sgN_mk];simp [bldG];exact ⟨rfl,rfl⟩
theorem tk6 (k b:Nd):tk (.mk 6 [] 0 [k,b])= [[119,104,105,108,101]]++tk k++tk b:=by unfold tk;rw [sgN_mk];simp [bldG];rfl
theorem tk12 (x:List UInt8) (ks:List Nd):tk (.mk 12 x 0 ks)= [x,[40]]++rowT (ks.map tk)++ [[41]]:=by
 rw [← rowT_eq]
 unfold tk
 rw [sgN_call]
 simp
 exact ⟨rfl,rfl,rfl⟩
theorem ownS_op (x:List UInt8):ownS (opG x)=x:=by
 unfold opG
 split <;> rfl
theorem tk13 (x:List UInt8) (a b:Nd):tk (.mk 13 x 0 [a,b])=tkI (raO (lvO x)) a++ [x]++tkI (lvO x+1) b:=by
 unfold tk tkI
 rw [sgN_bin,List.map_append,List.map_cons,ownS_op]
 simp
theorem tk14 (x:List UInt8) (k:Nd):tk (.mk 14 x 0 [k])= [x]++tkI 5 k:=by
 unfold tk tkI
 rw [sgN_un,List.map_cons,ownS_op]
 rfl
theorem tk0 (ks:List Nd):tk (.mk 0 [] 0 ks)=(ks.map tk).flatten:=by
 unfold tk
 rw [sgN_mk]
 simp [bldG,List.map_flatten]
 rfl
theorem tk2 (ks:List Nd):tk (.mk 2 [] 0 ks)= [[123]]++(ks.map tk).flatten++ [[125]]:=by
 unfold tk
 rw [sgN_mk]
 simp [bldG,List.map_flatten]
 exact ⟨rfl,rfl,rfl⟩
theorem tk1 (x:List UInt8) (vs:List Nd) (b:Nd):tk (.mk 1 x 0 (vs++ [b]))= [[111,110],x,[40]]++rowT (vs.map tk)++ [[41]]++tk b:=by
 rw [← rowT_eq]
 unfold tk
 rw [sgN_mk]
 simp only [bldG,List.map_append,List.map_cons,List.map_nil,List.dropLast_concat,List.getLastD_concat]
 simp
 exact ⟨rfl,rfl,rfl,rfl⟩
theorem sg8 (hI:ItoaOk) {v:Nat} (h:v≤2147483648):SgOkN (.mk 8 [] v []):=fun H=>by
 have ki:=fun H=>hI v h H
 (refine VCall.frozen (Q:=fun w K=>Frz K w (roT (tk (.mk 8 [] v [])))) (by simp [nameless_nV]) ?_ (fun _ _ h=>h))
 rw [tk8,nV,cellsN]
 (refine VCall.go Tryz.func26 rfl ?_)
 (repeat' (first|with_reducible refine And.intro ?_ ?_|((with_reducible intro hc);(try simp only [zA,zB,zC,zD,zE,zF,zG,zH,zI,zJ,zK,zL,zM,zN,zO,zP,zQ,zR,zS,zT,zU,zV,zW] at hc);(first|exact absurd rfl hc|exact absurd trivial hc|(exfalso;omega)|skip))|exact Is.mk rfl rfl|((conv=>whnf);first|with_reducible refine And.intro ?_ ?_|with_reducible intro hx|exact Is.mk rfl rfl|(with_reducible first|apply Val.via|apply ValH.via)|refine ifB_intro ?_ ?_|refine xA (by omega) ?_|(refine xB ?_;intro kw hk1 hk2)|refine xC (by omega) ?_|refine xD ?_|refine xE (by omega) ?_|refine xF (by omega) ?_|refine xG ?_|refine xH ?_|refine xI (by omega) ?_|refine xJ (by omega) ?_|(with_reducible refine stopA ?_)|refine Exists.intro _ (And.intro (by (first|exact vat_nd rfl rfl|exact vat_rowsN hk0 rfl|exact vat_of rfl rfl rfl|rfl)) ?_)|(first|(refine stopO (GOp'.grow0 rfl sty_T (d:= .slice 9) Tryz.underlying69 (by intro k h;cases h) (.inl rfl) (m:=1) (l:= [strV (Lib.decDigits v)]) (by intro y;first|exact velems_T _ _|rfl) (by first|exact one_T _|rfl) (by omega) (by omega) ?_))|(refine stopO (GOp'.grow rfl sty_T (d:= .slice 9) Tryz.underlying69 (by intro k h;cases h) rfl (m:=1) (l:= [strV (Lib.decDigits v)]) (by first|exact velems_T _ _|rfl) (by first|exact one_T _|rfl) rfl (by first|(simp;done)|(simp;omega)) (by omega) (by omega) ?_)))|refine GOp.drawn (by rfl) (by rfl) (Nat.le_of_ble_eq_true (by rfl)) (by rfl)|refine GOp.via (by rfl) ?_|refine GWP.drawY mixed _ (by kernel_rfl) (by rfl) ?_|(first|(refine GCall.mk (VCall.inl Tryz.func49 rfl ?_))|(refine GCall.mk ((ki _).mono ?_);rintro _ _ ⟨rfl,rfl⟩))|(with_reducible first|refine stopO ?_|refine stopE ?_|refine stopD ?_|refine stopW ?_|refine stopG ?_|refine stopC ?_|refine stopR ?_))))
 (all_goals (first|omega|contradiction|skip))
 (all_goals exact Done'.mk (frz_gsT rfl (by simp) (by simp;(try omega))))
theorem sg9 (hQ:QuoteOk) {x:List UInt8} (h:x.length≤1200):SgOkN (.mk 9 x 0 []):=fun H=>by
 have ki:=fun H=>hQ x (by omega) H
 (refine VCall.frozen (Q:=fun w K=>Frz K w (roT (tk (.mk 9 x 0 [])))) (by simp [nameless_nV]) ?_ (fun _ _ h=>h))
 rw [tk9,nV,cellsN]
 (refine VCall.go Tryz.func26 rfl ?_)
 (repeat' (first|with_reducible refine And.intro ?_ ?_|((with_reducible intro hc);(try simp only [zA,zB,zC,zD,zE,zF,zG,zH,zI,zJ,zK,zL,zM,zN,zO,zP,zQ,zR,zS,zT,zU,zV,zW] at hc);(first|exact absurd rfl hc|exact absurd trivial hc|(exfalso;omega)|skip))|exact Is.mk rfl rfl|((conv=>whnf);first|with_reducible refine And.intro ?_ ?_|with_reducible intro hx|exact Is.mk rfl rfl|(with_reducible first|apply Val.via|apply ValH.via)|refine ifB_intro ?_ ?_|refine xA (by omega) ?_|(refine xB ?_;intro kw hk1 hk2)|refine xC (by omega) ?_|refine xD ?_|refine xE (by omega) ?_|refine xF (by omega) ?_|refine xG ?_|refine xH ?_|refine xI (by omega) ?_|refine xJ (by omega) ?_|(with_reducible refine stopA ?_)|refine Exists.intro _ (And.intro (by (first|exact vat_nd rfl rfl|exact vat_rowsN hk0 rfl|exact vat_of rfl rfl rfl|rfl)) ?_)|(first|(refine stopO (GOp'.grow0 rfl sty_T (d:= .slice 9) Tryz.underlying69 (by intro k h;cases h) (.inl rfl) (m:=1) (l:= [strV (quoteB x)]) (by intro y;first|exact velems_T _ _|rfl) (by first|exact one_T _|rfl) (by omega) (by omega) ?_))|(refine stopO (GOp'.grow rfl sty_T (d:= .slice 9) Tryz.underlying69 (by intro k h;cases h) rfl (m:=1) (l:= [strV (quoteB x)]) (by first|exact velems_T _ _|rfl) (by first|exact one_T _|rfl) rfl (by first|(simp;done)|(simp;omega)) (by omega) (by omega) ?_)))|refine GOp.drawn (by rfl) (by rfl) (Nat.le_of_ble_eq_true (by rfl)) (by rfl)|refine GOp.via (by rfl) ?_|refine GWP.drawY mixed _ (by kernel_rfl) (by rfl) ?_|(first|(refine GCall.mk (VCall.inl Tryz.func49 rfl ?_))|(refine GCall.mk ((ki _).mono ?_);rintro _ _ ⟨rfl,rfl⟩))|(with_reducible first|refine stopO ?_|refine stopE ?_|refine stopD ?_|refine stopW ?_|refine stopG ?_|refine stopC ?_|refine stopR ?_))))
 (all_goals (first|omega|contradiction|skip))
 (all_goals exact Done'.mk (frz_gsT rfl (by simp) (by simp;(try omega))))
theorem sg10:SgOkN (.mk 10 [] 0 []):=fun H=>by
 (refine VCall.frozen (Q:=fun w K=>Frz K w (roT (tk (.mk 10 [] 0 [])))) (by simp [nameless_nV]) ?_ (fun _ _ h=>h))
 rw [tk10,nV,cellsN]
 (refine VCall.go Tryz.func26 rfl ?_)
 (repeat' (first|with_reducible refine And.intro ?_ ?_|((with_reducible intro hc);(try simp only [zA,zB,zC,zD,zE,zF,zG,zH,zI,zJ,zK,zL,zM,zN,zO,zP,zQ,zR,zS,zT,zU,zV,zW] at hc);(first|exact absurd rfl hc|exact absurd trivial hc|(exfalso;omega)|skip))|exact Is.mk rfl rfl|((conv=>whnf);first|with_reducible refine And.intro ?_ ?_|with_reducible intro hx|exact Is.mk rfl rfl|(with_reducible first|apply Val.via|apply ValH.via)|refine ifB_intro ?_ ?_|refine xA (by omega) ?_|(refine xB ?_;intro kw hk1 hk2)|refine xC (by omega) ?_|refine xD ?_|refine xE (by omega) ?_|refine xF (by omega) ?_|refine xG ?_|refine xH ?_|refine xI (by omega) ?_|refine xJ (by omega) ?_|(with_reducible refine stopA ?_)|refine Exists.intro _ (And.intro (by (first|exact vat_nd rfl rfl|exact vat_rowsN hk0 rfl|exact vat_of rfl rfl rfl|rfl)) ?_)|(first|(refine stopO (GOp'.grow0 rfl sty_T (d:= .slice 9) Tryz.underlying69 (by intro k h;cases h) (.inl rfl) (m:=1) (l:= [strV [110,105,108]]) (by intro y;first|exact velems_T _ _|rfl) (by first|exact one_T _|rfl) (by omega) (by omega) ?_))|(refine stopO (GOp'.grow rfl sty_T (d:= .slice 9) Tryz.underlying69 (by intro k h;cases h) rfl (m:=1) (l:= [strV [110,105,108]]) (by first|exact velems_T _ _|rfl) (by first|exact one_T _|rfl) rfl (by first|(simp;done)|(simp;omega)) (by omega) (by omega) ?_)))|refine GOp.drawn (by rfl) (by rfl) (Nat.le_of_ble_eq_true (by rfl)) (by rfl)|refine GOp.via (by rfl) ?_|refine GWP.drawY mixed _ (by kernel_rfl) (by rfl) ?_|(refine GCall.mk (VCall.inl Tryz.func49 rfl ?_))|(with_reducible first|refine stopO ?_|refine stopE ?_|refine stopD ?_|refine stopW ?_|refine stopG ?_|refine stopC ?_|refine stopR ?_))))
 (all_goals (first|omega|contradiction|skip))
 (all_goals exact Done'.mk (frz_gsT rfl (by simp) (by simp;(try omega))))
theorem sg11 (x:List UInt8):SgOkN (.mk 11 x 0 []):=fun H=>by
 (refine VCall.frozen (Q:=fun w K=>Frz K w (roT (tk (.mk 11 x 0 [])))) (by simp [nameless_nV]) ?_ (fun _ _ h=>h))
 rw [tk11,nV,cellsN]
 (refine VCall.go Tryz.func26 rfl ?_)
 (repeat' (first|with_reducible refine And.intro ?_ ?_|((with_reducible intro hc);(try simp only [zA,zB,zC,zD,zE,zF,zG,zH,zI,zJ,zK,zL,zM,zN,zO,zP,zQ,zR,zS,zT,zU,zV,zW] at hc);(first|exact absurd rfl hc|exact absurd trivial hc|(exfalso;omega)|skip))|exact Is.mk rfl rfl|((conv=>whnf);first|with_reducible refine And.intro ?_ ?_|with_reducible intro hx|exact Is.mk rfl rfl|(with_reducible first|apply Val.via|apply ValH.via)|refine ifB_intro ?_ ?_|refine xA (by omega) ?_|(refine xB ?_;intro kw hk1 hk2)|refine xC (by omega) ?_|refine xD ?_|refine xE (by omega) ?_|refine xF (by omega) ?_|refine xG ?_|refine xH ?_|refine xI (by omega) ?_|refine xJ (by omega) ?_|(with_reducible refine stopA ?_)|refine Exists.intro _ (And.intro (by (first|exact vat_nd rfl rfl|exact vat_rowsN hk0 rfl|exact vat_of rfl rfl rfl|rfl)) ?_)|(first|(refine stopO (GOp'.grow0 rfl sty_T (d:= .slice 9) Tryz.underlying69 (by intro k h;cases h) (.inl rfl) (m:=1) (l:= [strV x]) (by intro y;first|exact velems_T _ _|rfl) (by first|exact one_T _|rfl) (by omega) (by omega) ?_))|(refine stopO (GOp'.grow rfl sty_T (d:= .slice 9) Tryz.underlying69 (by intro k h;cases h) rfl (m:=1) (l:= [strV x]) (by first|exact velems_T _ _|rfl) (by first|exact one_T _|rfl) rfl (by first|(simp;done)|(simp;omega)) (by omega) (by omega) ?_)))|refine GOp.drawn (by rfl) (by rfl) (Nat.le_of_ble_eq_true (by rfl)) (by rfl)|refine GOp.via (by rfl) ?_|refine GWP.drawY mixed _ (by kernel_rfl) (by rfl) ?_|(refine GCall.mk (VCall.inl Tryz.func49 rfl ?_))|(with_reducible first|refine stopO ?_|refine stopE ?_|refine stopD ?_|refine stopW ?_|refine stopG ?_|refine stopC ?_|refine stopR ?_))))
 (all_goals (first|omega|contradiction|skip))
 (all_goals exact Done'.mk (frz_gsT rfl (by simp) (by simp;(try omega))))
theorem sg7:SgOkN (.mk 7 [] 0 []):=fun H=>by
 (refine VCall.frozen (Q:=fun w K=>Frz K w (roT (tk (.mk 7 [] 0 [])))) (by simp [nameless_nV]) ?_ (fun _ _ h=>h))
 rw [tk7,nV,cellsN]
 (refine VCall.go Tryz.func26 rfl ?_)
 (repeat' (first|with_reducible refine And.intro ?_ ?_|((with_reducible intro hc);(try simp only [zA,zB,zC,zD,zE,zF,zG,zH,zI,zJ,zK,zL,zM,zN,zO,zP,zQ,zR,zS,zT,zU,zV,zW] at hc);(first|exact absurd rfl hc|exact absurd trivial hc|(exfalso;omega)|skip))|exact Is.mk rfl rfl|((conv=>whnf);first|with_reducible refine And.intro ?_ ?_|with_reducible intro hx|exact Is.mk rfl rfl|(with_reducible first|apply Val.via|apply ValH.via)|refine ifB_intro ?_ ?_|refine xA (by omega) ?_|(refine xB ?_;intro kw hk1 hk2)|refine xC (by omega) ?_|refine xD ?_|refine xE (by omega) ?_|refine xF (by omega) ?_|refine xG ?_|refine xH ?_|refine xI (by omega) ?_|refine xJ (by omega) ?_|(with_reducible refine stopA ?_)|refine Exists.intro _ (And.intro (by (first|exact vat_nd rfl rfl|exact vat_rowsN hk0 rfl|exact vat_of rfl rfl rfl|rfl)) ?_)|(first|(refine stopO (GOp'.grow0 rfl sty_T (d:= .slice 9) Tryz.underlying69 (by intro k h;cases h) (.inl rfl) (m:=2) (l:= [strV [115,116,111,112],strV [59]]) (by intro y;first|exact velems_T _ _|rfl) (by first|exact one_T _|rfl) (by omega) (by omega) ?_))|(refine stopO (GOp'.grow rfl sty_T (d:= .slice 9) Tryz.underlying69 (by intro k h;cases h) rfl (m:=2) (l:= [strV [115,116,111,112],strV [59]]) (by first|exact velems_T _ _|rfl) (by first|exact one_T _|rfl) rfl (by first|(simp;done)|(simp;omega)) (by omega) (by omega) ?_)))|refine GOp.drawn (by rfl) (by rfl) (Nat.le_of_ble_eq_true (by rfl)) (by rfl)|refine GOp.via (by rfl) ?_|refine GWP.drawY mixed _ (by kernel_rfl) (by rfl) ?_|(refine GCall.mk (VCall.inl Tryz.func49 rfl ?_))|(with_reducible first|refine stopO ?_|refine stopE ?_|refine stopD ?_|refine stopW ?_|refine stopG ?_|refine stopC ?_|refine stopR ?_))))
 (all_goals (first|omega|contradiction|skip))
 (all_goals exact Done'.mk (frz_gsT rfl (by simp) (by simp;(try omega))))
theorem sg3 (x:List UInt8) (k:Nd) (hs:SgOkN k) (hl:(tk k).length≤1000000):SgOkN (.mk 3 x 0 [k]):=fun H=>by
 (refine VCall.frozen (Q:=fun w K=>Frz K w (roT (tk (.mk 3 x 0 [k])))) (by simp [nameless_nV]) ?_ (fun _ _ h=>h))
 rw [tk3,nV,cellsN]
 have kk:=fun H=>hs H
 generalize tk k=xs at *
 have hk0: [k][0]? = some k:=rfl
 have hlen: [k].length=1:=rfl
 generalize [k]=ks at *
 obtain ⟨op,tx,nm,k2⟩:=k
 simp only [nV,cellsN,roT] at kk
 (refine VCall.go Tryz.func26 rfl ?_)
 (repeat' (first|with_reducible refine And.intro ?_ ?_|((with_reducible intro hc);(try simp only [zA,zB,zC,zD,zE,zF,zG,zH,zI,zJ,zK,zL,zM,zN,zO,zP,zQ,zR,zS,zT,zU,zV,zW] at hc);(first|exact absurd rfl hc|exact absurd trivial hc|(exfalso;omega)|skip))|exact Is.mk rfl rfl|((conv=>whnf);first|with_reducible refine And.intro ?_ ?_|with_reducible intro hx|exact Is.mk rfl rfl|(with_reducible first|apply Val.via|apply ValH.via)|refine ifB_intro ?_ ?_|refine xA (by omega) ?_|(refine xB ?_;intro kw hk1 hk2)|refine xC (by omega) ?_|refine xD ?_|refine xE (by omega) ?_|refine xF (by omega) ?_|refine xG ?_|refine xH ?_|refine xI (by omega) ?_|refine xJ (by omega) ?_|(with_reducible refine stopA ?_)|refine Exists.intro _ (And.intro (by (first|exact vat_nd rfl rfl|exact vat_rowsN hk0 rfl|exact vat_of rfl rfl rfl|rfl)) ?_)|(first|(refine stopO (GOp'.grow0 rfl sty_T (d:= .slice 9) Tryz.underlying69 (by intro k h;cases h) (.inl rfl) (m:=2) (l:= [strV x,strV [61]]) (by intro y;first|exact velems_T _ _|rfl) (by first|exact one_T _|rfl) (by omega) (by omega) ?_))|(refine stopO (GOp'.grow rfl sty_T (d:= .slice 9) Tryz.underlying69 (by intro k h;cases h) rfl (m:=2) (l:= [strV x,strV [61]]) (by first|exact velems_T _ _|rfl) (by first|exact one_T _|rfl) rfl (by first|(simp;done)|(simp;omega)) (by omega) (by omega) ?_))|(refine stopO (GOp'.grow0 rfl sty_T (d:= .slice 9) Tryz.underlying69 (by intro k h;cases h) (.inl rfl) (m:=1) (l:= [strV [59]]) (by intro y;first|exact velems_T _ _|rfl) (by first|exact one_T _|rfl) (by omega) (by omega) ?_))|(refine stopO (GOp'.grow rfl sty_T (d:= .slice 9) Tryz.underlying69 (by intro k h;cases h) rfl (m:=1) (l:= [strV [59]]) (by first|exact velems_T _ _|rfl) (by first|exact one_T _|rfl) rfl (by first|(simp;done)|(simp;omega)) (by omega) (by omega) ?_))|(refine stopO (GOp'.grow0 rfl sty_T (d:= .slice 9) Tryz.underlying69 (by intro k h;cases h) (.inl rfl) (m:=xs.length) (l:=xs.map strV) (by intro y;first|exact velems_T _ _|rfl) (by first|exact one_T _|rfl) (by omega) (by omega) ?_))|(refine stopO (GOp'.grow rfl sty_T (d:= .slice 9) Tryz.underlying69 (by intro k h;cases h) rfl (m:=xs.length) (l:=xs.map strV) (by first|exact velems_T _ _|rfl) (by first|exact one_T _|rfl) rfl (by first|(simp;done)|(simp;omega)) (by omega) (by omega) ?_)))|refine GOp.drawn (by rfl) (by rfl) (Nat.le_of_ble_eq_true (by rfl)) (by rfl)|refine GOp.via (by rfl) ?_|refine GWP.drawY mixed _ (by kernel_rfl) (by rfl) ?_|(first|(refine GCall.mk (VCall.inl Tryz.func49 rfl ?_))|(refine GCall.mk ((kk _).mono ?_);rintro _ _ ⟨rfl,rfl⟩))|(with_reducible first|refine stopO ?_|refine stopE ?_|refine stopD ?_|refine stopW ?_|refine stopG ?_|refine stopC ?_|refine stopR ?_))))
 (all_goals (first|omega|contradiction|skip))
 (all_goals exact Done'.mk (frz_gsT rfl (by simp) (by simp;(try omega))))
theorem sg4 (k:Nd) (hs:SgOkN k) (hl:(tk k).length≤1000000):SgOkN (.mk 4 [] 0 [k]):=fun H=>by
 (refine VCall.frozen (Q:=fun w K=>Frz K w (roT (tk (.mk 4 [] 0 [k])))) (by simp [nameless_nV]) ?_ (fun _ _ h=>h))
 rw [tk4,nV,cellsN]
 have kk:=fun H=>hs H
 generalize tk k=xs at *
 have hk0: [k][0]? = some k:=rfl
 have hlen: [k].length=1:=rfl
 generalize [k]=ks at *
 obtain ⟨op,tx,nm,k2⟩:=k
 simp only [nV,cellsN,roT] at kk
 (refine VCall.go Tryz.func26 rfl ?_)
 (repeat' (first|with_reducible refine And.intro ?_ ?_|((with_reducible intro hc);(try simp only [zA,zB,zC,zD,zE,zF,zG,zH,zI,zJ,zK,zL,zM,zN,zO,zP,zQ,zR,zS,zT,zU,zV,zW] at hc);(first|exact absurd rfl hc|exact absurd trivial hc|(exfalso;omega)|skip))|exact Is.mk rfl rfl|((conv=>whnf);first|with_reducible refine And.intro ?_ ?_|with_reducible intro hx|exact Is.mk rfl rfl|(with_reducible first|apply Val.via|apply ValH.via)|refine ifB_intro ?_ ?_|refine xA (by omega) ?_|(refine xB ?_;intro kw hk1 hk2)|refine xC (by omega) ?_|refine xD ?_|refine xE (by omega) ?_|refine xF (by omega) ?_|refine xG ?_|refine xH ?_|refine xI (by omega) ?_|refine xJ (by omega) ?_|(with_reducible refine stopA ?_)|refine Exists.intro _ (And.intro (by (first|exact vat_nd rfl rfl|exact vat_rowsN hk0 rfl|exact vat_of rfl rfl rfl|rfl)) ?_)|(first|(refine stopO (GOp'.grow0 rfl sty_T (d:= .slice 9) Tryz.underlying69 (by intro k h;cases h) (.inl rfl) (m:=1) (l:= [strV [59]]) (by intro y;first|exact velems_T _ _|rfl) (by first|exact one_T _|rfl) (by omega) (by omega) ?_))|(refine stopO (GOp'.grow rfl sty_T (d:= .slice 9) Tryz.underlying69 (by intro k h;cases h) rfl (m:=1) (l:= [strV [59]]) (by first|exact velems_T _ _|rfl) (by first|exact one_T _|rfl) rfl (by first|(simp;done)|(simp;omega)) (by omega) (by omega) ?_))|(refine stopO (GOp'.grow0 rfl sty_T (d:= .slice 9) Tryz.underlying69 (by intro k h;cases h) (.inl rfl) (m:=xs.length) (l:=xs.map strV) (by intro y;first|exact velems_T _ _|rfl) (by first|exact one_T _|rfl) (by omega) (by omega) ?_))|(refine stopO (GOp'.grow rfl sty_T (d:= .slice 9) Tryz.underlying69 (by intro k h;cases h) rfl (m:=xs.length) (l:=xs.map strV) (by first|exact velems_T _ _|rfl) (by first|exact one_T _|rfl) rfl (by first|(simp;done)|(simp;omega)) (by omega) (by omega) ?_)))|refine GOp.drawn (by rfl) (by rfl) (Nat.le_of_ble_eq_true (by rfl)) (by rfl)|refine GOp.via (by rfl) ?_|refine GWP.drawY mixed _ (by kernel_rfl) (by rfl) ?_|(first|(refine GCall.mk (VCall.inl Tryz.func49 rfl ?_))|(refine GCall.mk ((kk _).mono ?_);rintro _ _ ⟨rfl,rfl⟩))|(with_reducible first|refine stopO ?_|refine stopE ?_|refine stopD ?_|refine stopW ?_|refine stopG ?_|refine stopC ?_|refine stopR ?_))))
 (all_goals (first|omega|contradiction|skip))
 (all_goals exact Done'.mk (frz_gsT rfl (by simp) (by simp;(try omega))))
end Go.Proofs.YtnmjdjldbloefaaGreatDoor
namespace Go.Proofs.YtnmjdjldbloefaaGreatDoor
open Go Go.RowKit
set_option linter.unusedSimpArgs false
set_option linter.unusedVariables false
set_option maxRecDepth 100000
set_option maxHeartbeats 16000000
theorem GOp'.ins {P:Program} {o:Oper} {ts:List VV} {H H':Heap} {K:VV→Heap→Prop} {t:TypeId} {m x y:Operand} (ho:o.op= .insert t m x y) (h:vmapUpd P t (veval ts m) (veval ts x) (veval ts y) H=some H') (k:K (.tp []) H'):GOp' P o ts H K:=⟨⟨fun B M Z ρ a w rr KK QE h1 h2 h3=>by
 have hnd: ∀ c,o.op≠ .defer c:=fun c e=>by simp [ho] at e
 have hev:=fun x=>veval_rel (w:=w) (Z:=Z) (ρ:=ρ) (a:=a) h2 x
 obtain ⟨w2,g1,g2,g3⟩:=vmapUpd_sound h1 (hev m) (hev x) (hev y) h
 have od:OpDoes P o a B M H.next Z ρ w (.tp []) H':=⟨undef,w2,Z,ρ,.inr ⟨by simp [execOp,ho,g1],rfl⟩,g2,g3,VRel.undef⟩
 obtain ⟨v',w',Z',ρ',hr,e1,r1,v1⟩:=od
 refine ⟨fun f _=>FW_fn _ f,?_⟩
 rw [Oper.semAt_eq _ _ _ hnd]
 have hk:=h3 v' _ _ Z' ρ' w' k e1 r1 v1
 rcases hr with hr|⟨hr,rfl⟩
 ·rw [hr];exact hk
 ·rw [hr];exact hk⟩⟩
theorem sg52 (k b:Nd) (hs:SgOkN k) (hb:SgOkN b) (hl:(tk k).length≤1000000) (hl1:(tk b).length≤1000000):SgOkN (.mk 5 [] 0 [k,b]):=fun H=>by
 (refine VCall.frozen (Q:=fun w K=>Frz K w (roT (tk (.mk 5 [] 0 [k,b])))) (by simp [nameless_nV]) ?_ (fun _ _ h=>h))
 rw [tk52,nV,cellsN]
 have kk:=fun H=>hs H
 have kb:=fun H=>hb H
 generalize tk k=xs at *
 generalize tk b=ys at *
 have hk0: [k,b][0]? = some k:=rfl
 have hk1: [k,b][1]? = some b:=rfl
 have hlen: [k,b].length=2:=rfl
 generalize [k,b]=ks at *
 obtain ⟨op,tx,nm,k2⟩:=k
 obtain ⟨op1,tx1,nm1,b2⟩:=b
 simp only [nV,cellsN,roT] at kk kb
 (refine VCall.go Tryz.func26 rfl ?_)
 (repeat' (first|with_reducible refine And.intro ?_ ?_|((with_reducible intro hc);(try simp only [zA,zB,zC,zD,zE,zF,zG,zH,zI,zJ,zK,zL,zM,zN,zO,zP,zQ,zR,zS,zT,zU,zV,zW] at hc);(first|exact absurd rfl hc|exact absurd trivial hc|(exfalso;omega)|skip))|exact Is.mk rfl rfl|((conv=>whnf);first|with_reducible refine And.intro ?_ ?_|with_reducible intro hx|exact Is.mk rfl rfl|(with_reducible first|apply Val.via|apply ValH.via)|refine ifB_intro ?_ ?_|refine xA (by omega) ?_|(refine xB ?_;intro kw hk1 hk2)|refine xC (by omega) ?_|refine xD ?_|refine xE (by omega) ?_|refine xF (by omega) ?_|refine xG ?_|refine xH ?_|refine xI (by omega) ?_|refine xJ (by omega) ?_|(with_reducible refine stopA ?_)|refine Exists.intro _ (And.intro (by (first|exact vat_nd rfl rfl|exact vat_rowsN hk0 rfl|exact vat_rowsN hk1 rfl|exact vat_of rfl rfl rfl|rfl)) ?_)|(first|(refine stopO (GOp'.ins rfl rfl ?_))|(refine stopO (GOp'.grow0 rfl sty_T (d:= .slice 9) Tryz.underlying69 (by intro k h;cases h) (.inl rfl) (m:=1) (l:= [strV [105,102]]) (by intro y;first|exact velems_T _ _|rfl) (by first|exact one_T _|rfl) (by omega) (by omega) ?_))|(refine stopO (GOp'.grow rfl sty_T (d:= .slice 9) Tryz.underlying69 (by intro k h;cases h) rfl (m:=1) (l:= [strV [105,102]]) (by first|exact velems_T _ _|rfl) (by first|exact one_T _|rfl) rfl (by first|(simp;done)|(simp;omega)) (by omega) (by omega) ?_))|(refine stopO (GOp'.grow0 rfl sty_T (d:= .slice 9) Tryz.underlying69 (by intro k h;cases h) (.inl rfl) (m:=xs.length) (l:=xs.map strV) (by intro y;first|exact velems_T _ _|rfl) (by first|exact one_T _|rfl) (by omega) (by omega) ?_))|(refine stopO (GOp'.grow rfl sty_T (d:= .slice 9) Tryz.underlying69 (by intro k h;cases h) rfl (m:=xs.length) (l:=xs.map strV) (by first|exact velems_T _ _|rfl) (by first|exact one_T _|rfl) rfl (by first|(simp;done)|(simp;omega)) (by omega) (by omega) ?_))|(refine stopO (GOp'.grow0 rfl sty_T (d:= .slice 9) Tryz.underlying69 (by intro k h;cases h) (.inl rfl) (m:=ys.length) (l:=ys.map strV) (by intro y;first|exact velems_T _ _|rfl) (by first|exact one_T _|rfl) (by omega) (by omega) ?_))|(refine stopO (GOp'.grow rfl sty_T (d:= .slice 9) Tryz.underlying69 (by intro k h;cases h) rfl (m:=ys.length) (l:=ys.map strV) (by first|exact velems_T _ _|rfl) (by first|exact one_T _|rfl) rfl (by first|(simp;done)|(simp;omega)) (by omega) (by omega) ?_)))|refine GOp.drawn (by rfl) (by rfl) (Nat.le_of_ble_eq_true (by rfl)) (by rfl)|refine GOp.via (by rfl) ?_|refine GWP.drawY mixed _ (by kernel_rfl) (by rfl) ?_|(first|(refine GCall.mk (VCall.inl Tryz.func49 rfl ?_))|(refine GCall.mk ((kk _).mono ?_);rintro _ _ ⟨rfl,rfl⟩)|(refine GCall.mk ((kb _).mono ?_);rintro _ _ ⟨rfl,rfl⟩))|(with_reducible first|refine stopO ?_|refine stopE ?_|refine stopD ?_|refine stopW ?_|refine stopG ?_|refine stopC ?_|refine stopR ?_))))
 (all_goals (first|omega|contradiction|skip))
 (all_goals exact Done'.mk (frz_gsT rfl (by simp) (by simp;(try omega))))
theorem sg53 (k b c:Nd) (hs:SgOkN k) (hb:SgOkN b) (hc0:SgOkN c) (hl:(tk k).length≤1000000) (hl1:(tk b).length≤1000000) (hl2:(tk c).length≤1000000):SgOkN (.mk 5 [] 0 [k,b,c]):=fun H=>by
 (refine VCall.frozen (Q:=fun w K=>Frz K w (roT (tk (.mk 5 [] 0 [k,b,c])))) (by simp [nameless_nV]) ?_ (fun _ _ h=>h))
 rw [tk53,nV,cellsN]
 have kk:=fun H=>hs H
 have kb:=fun H=>hb H
 have kc:=fun H=>hc0 H
 generalize tk k=xs at *
 generalize tk b=ys at *
 generalize tk c=zs at *
 have hk0: [k,b,c][0]? = some k:=rfl
 have hk1: [k,b,c][1]? = some b:=rfl
 have hk2: [k,b,c][2]? = some c:=rfl
 have hlen: [k,b,c].length=3:=rfl
 generalize [k,b,c]=ks at *
 obtain ⟨op,tx,nm,k2⟩:=k
 obtain ⟨op1,tx1,nm1,b2⟩:=b
 obtain ⟨op2,tx2,nm2,c2⟩:=c
 simp only [nV,cellsN,roT] at kk kb kc
 (refine VCall.go Tryz.func26 rfl ?_)
 (repeat' (first|with_reducible refine And.intro ?_ ?_|((with_reducible intro hc);(try simp only [zA,zB,zC,zD,zE,zF,zG,zH,zI,zJ,zK,zL,zM,zN,zO,zP,zQ,zR,zS,zT,zU,zV,zW] at hc);(first|exact absurd rfl hc|exact absurd trivial hc|(exfalso;omega)|skip))|exact Is.mk rfl rfl|((conv=>whnf);first|with_reducible refine And.intro ?_ ?_|with_reducible intro hx|exact Is.mk rfl rfl|(with_reducible first|apply Val.via|apply ValH.via)|refine ifB_intro ?_ ?_|refine xA (by omega) ?_|(refine xB ?_;intro kw hk1 hk2)|refine xC (by omega) ?_|refine xD ?_|refine xE (by omega) ?_|refine xF (by omega) ?_|refine xG ?_|refine xH ?_|refine xI (by omega) ?_|refine xJ (by omega) ?_|(with_reducible refine stopA ?_)|refine Exists.intro _ (And.intro (by (first|exact vat_nd rfl rfl|exact vat_rowsN hk0 rfl|exact vat_rowsN hk1 rfl|exact vat_rowsN hk2 rfl|exact vat_of rfl rfl rfl|rfl)) ?_)|(first|(refine stopO (GOp'.ins rfl rfl ?_))|(refine stopO (GOp'.grow0 rfl sty_T (d:= .slice 9) Tryz.underlying69 (by intro k h;cases h) (.inl rfl) (m:=1) (l:= [strV [105,102]]) (by intro y;first|exact velems_T _ _|rfl) (by first|exact one_T _|rfl) (by omega) (by omega) ?_))|(refine stopO (GOp'.grow rfl sty_T (d:= .slice 9) Tryz.underlying69 (by intro k h;cases h) rfl (m:=1) (l:= [strV [105,102]]) (by first|exact velems_T _ _|rfl) (by first|exact one_T _|rfl) rfl (by first|(simp;done)|(simp;omega)) (by omega) (by omega) ?_))|(refine stopO (GOp'.grow0 rfl sty_T (d:= .slice 9) Tryz.underlying69 (by intro k h;cases h) (.inl rfl) (m:=1) (l:= [strV [101,108,115,101]]) (by intro y;first|exact velems_T _ _|rfl) (by first|exact one_T _|rfl) (by omega) (by omega) ?_))|(refine stopO (GOp'.grow rfl sty_T (d:= .slice 9) Tryz.underlying69 (by intro k h;cases h) rfl (m:=1) (l:= [strV [101,108,115,101]]) (by first|exact velems_T _ _|rfl) (by first|exact one_T _|rfl) rfl (by first|(simp;done)|(simp;omega)) (by omega) (by omega) ?_))|(refine stopO (GOp'.grow0 rfl sty_T (d:= .slice 9) Tryz.underlying69 (by intro k h;cases h) (.inl rfl) (m:=xs.length) (l:=xs.map strV) (by intro y;first|exact velems_T _ _|rfl) (by first|exact one_T _|rfl) (by omega) (by omega) ?_))|(refine stopO (GOp'.grow rfl sty_T (d:= .slice 9) Tryz.underlying69 (by intro k h;cases h) rfl (m:=xs.length) (l:=xs.map strV) (by first|exact velems_T _ _|rfl) (by first|exact one_T _|rfl) rfl (by first|(simp;done)|(simp;omega)) (by omega) (by omega) ?_))|(refine stopO (GOp'.grow0 rfl sty_T (d:= .slice 9) Tryz.underlying69 (by intro k h;cases h) (.inl rfl) (m:=ys.length) (l:=ys.map strV) (by intro y;first|exact velems_T _ _|rfl) (by first|exact one_T _|rfl) (by omega) (by omega) ?_))|(refine stopO (GOp'.grow rfl sty_T (d:= .slice 9) Tryz.underlying69 (by intro k h;cases h) rfl (m:=ys.length) (l:=ys.map strV) (by first|exact velems_T _ _|rfl) (by first|exact one_T _|rfl) rfl (by first|(simp;done)|(simp;omega)) (by omega) (by omega) ?_))|(refine stopO (GOp'.grow0 rfl sty_T (d:= .slice 9) Tryz.underlying69 (by intro k h;cases h) (.inl rfl) (m:=zs.length) (l:=zs.map strV) (by intro y;first|exact velems_T _ _|rfl) (by first|exact one_T _|rfl) (by omega) (by omega) ?_))|(refine stopO (GOp'.grow rfl sty_T (d:= .slice 9) Tryz.underlying69 (by intro k h;cases h) rfl (m:=zs.length) (l:=zs.map strV) (by first|exact velems_T _ _|rfl) (by first|exact one_T _|rfl) rfl (by first|(simp;done)|(simp;omega)) (by omega) (by omega) ?_)))|refine GOp.drawn (by rfl) (by rfl) (Nat.le_of_ble_eq_true (by rfl)) (by rfl)|refine GOp.via (by rfl) ?_|refine GWP.drawY mixed _ (by kernel_rfl) (by rfl) ?_|(first|(refine GCall.mk (VCall.inl Tryz.func49 rfl ?_))|(refine GCall.mk ((kk _).mono ?_);rintro _ _ ⟨rfl,rfl⟩)|(refine GCall.mk ((kb _).mono ?_);rintro _ _ ⟨rfl,rfl⟩)|(refine GCall.mk ((kc _).mono ?_);rintro _ _ ⟨rfl,rfl⟩))|(with_reducible first|refine stopO ?_|refine stopE ?_|refine stopD ?_|refine stopW ?_|refine stopG ?_|refine stopC ?_|refine stopR ?_))))
 (all_goals (first|omega|contradiction|skip))
 (all_goals exact Done'.mk (frz_gsT rfl (by simp) (by simp;(try omega))))
theorem sg6 (k b:Nd) (hs:SgOkN k) (hb:SgOkN b) (hl:(tk k).length≤1000000) (hl1:(tk b).length≤1000000):SgOkN (.mk 6 [] 0 [k,b]):=fun H=>by
 (refine VCall.frozen (Q:=fun w K=>Frz K w (roT (tk (.mk 6 [] 0 [k,b])))) (by simp [nameless_nV]) ?_ (fun _ _ h=>h))
 rw [tk6,nV,cellsN]
 have kk:=fun H=>hs H
 have kb:=fun H=>hb H
 generalize tk k=xs at *
 generalize tk b=ys at *
 have hk0: [k,b][0]? = some k:=rfl
 have hk1: [k,b][1]? = some b:=rfl
 have hlen: [k,b].length=2:=rfl
 generalize [k,b]=ks at *
 obtain ⟨op,tx,nm,k2⟩:=k
 obtain ⟨op1,tx1,nm1,b2⟩:=b
 simp only [nV,cellsN,roT] at kk kb
 (refine VCall.go Tryz.func26 rfl ?_)
 (repeat' (first|with_reducible refine And.intro ?_ ?_|((with_reducible intro hc);(try simp only [zA,zB,zC,zD,zE,zF,zG,zH,zI,zJ,zK,zL,zM,zN,zO,zP,zQ,zR,zS,zT,zU,zV,zW] at hc);(first|exact absurd rfl hc|exact absurd trivial hc|(exfalso;omega)|skip))|exact Is.mk rfl rfl|((conv=>whnf);first|with_reducible refine And.intro ?_ ?_|with_reducible intro hx|exact Is.mk rfl rfl|(with_reducible first|apply Val.via|apply ValH.via)|refine ifB_intro ?_ ?_|refine xA (by omega) ?_|(refine xB ?_;intro kw hk1 hk2)|refine xC (by omega) ?_|refine xD ?_|refine xE (by omega) ?_|refine xF (by omega) ?_|refine xG ?_|refine xH ?_|refine xI (by omega) ?_|refine xJ (by omega) ?_|(with_reducible refine stopA ?_)|refine Exists.intro _ (And.intro (by (first|exact vat_nd rfl rfl|exact vat_rowsN hk0 rfl|exact vat_rowsN hk1 rfl|exact vat_of rfl rfl rfl|rfl)) ?_)|(first|(refine stopO (GOp'.ins rfl rfl ?_))|(refine stopO (GOp'.grow0 rfl sty_T (d:= .slice 9) Tryz.underlying69 (by intro k h;cases h) (.inl rfl) (m:=1) (l:= [strV [119,104,105,108,101]]) (by intro y;first|exact velems_T _ _|rfl) (by first|exact one_T _|rfl) (by omega) (by omega) ?_))|(refine stopO (GOp'.grow rfl sty_T (d:= .slice 9) Tryz.underlying69 (by intro k h;cases h) rfl (m:=1) (l:= [strV [119,104,105,108,101]]) (by first|exact velems_T _ _|rfl) (by first|exact one_T _|rfl) rfl (by first|(simp;done)|(simp;omega)) (by omega) (by omega) ?_))|(refine stopO (GOp'.grow0 rfl sty_T (d:= .slice 9) Tryz.underlying69 (by intro k h;cases h) (.inl rfl) (m:=xs.length) (l:=xs.map strV) (by intro y;first|exact velems_T _ _|rfl) (by first|exact one_T _|rfl) (by omega) (by omega) ?_))|(refine stopO (GOp'.grow rfl sty_T (d:= .slice 9) Tryz.underlying69 (by intro k h;cases h) rfl (m:=xs.length) (l:=xs.map strV) (by first|exact velems_T _ _|rfl) (by first|exact one_T _|rfl) rfl (by first|(simp;done)|(simp;omega)) (by omega) (by omega) ?_))|(refine stopO (GOp'.grow0 rfl sty_T (d:= .slice 9) Tryz.underlying69 (by intro k h;cases h) (.inl rfl) (m:=ys.length) (l:=ys.map strV) (by intro y;first|exact velems_T _ _|rfl) (by first|exact one_T _|rfl) (by omega) (by omega) ?_))|(refine stopO (GOp'.grow rfl sty_T (d:= .slice 9) Tryz.underlying69 (by intro k h;cases h) rfl (m:=ys.length) (l:=ys.map strV) (by first|exact velems_T _ _|rfl) (by first|exact one_T _|rfl) rfl (by first|(simp;done)|(simp;omega)) (by omega) (by omega) ?_)))|refine GOp.drawn (by rfl) (by rfl) (Nat.le_of_ble_eq_true (by rfl)) (by rfl)|refine GOp.via (by rfl) ?_|refine GWP.drawY mixed _ (by kernel_rfl) (by rfl) ?_|(first|(refine GCall.mk (VCall.inl Tryz.func49 rfl ?_))|(refine GCall.mk ((kk _).mono ?_);rintro _ _ ⟨rfl,rfl⟩)|(refine GCall.mk ((kb _).mono ?_);rintro _ _ ⟨rfl,rfl⟩))|(with_reducible first|refine stopO ?_|refine stopE ?_|refine stopD ?_|refine stopW ?_|refine stopG ?_|refine stopC ?_|refine stopR ?_))))
 (all_goals (first|omega|contradiction|skip))
 (all_goals exact Done'.mk (frz_gsT rfl (by simp) (by simp;(try omega))))
theorem sg12 (x:List UInt8) (ks:List Nd) (hs: ∀ k∈ks,SgOkN k) (hM:sumT ks≤1000000) (hl:(rowT (ks.map tk)).length≤1000000):SgOkN (.mk 12 x 0 ks):=fun H=>by
 (refine VCall.frozen (Q:=fun w K=>Frz K w (roT (tk (.mk 12 x 0 ks)))) (by simp [nameless_nV]) ?_ (fun _ _ h=>h))
 rw [tk12,nV,cellsN]
 have kk:=fun H=>row_call ks hM hs H
 generalize rowT (ks.map tk)=xs at *
 have hk0:True:=trivial
 simp only [roT] at kk
 (refine VCall.go Tryz.func26 rfl ?_)
 (repeat' (first|with_reducible refine And.intro ?_ ?_|((with_reducible intro hc);(try simp only [zA,zB,zC,zD,zE,zF,zG,zH,zI,zJ,zK,zL,zM,zN,zO,zP,zQ,zR,zS,zT,zU,zV,zW] at hc);(first|exact absurd rfl hc|exact absurd trivial hc|(exfalso;omega)|skip))|exact Is.mk rfl rfl|((conv=>whnf);first|with_reducible refine And.intro ?_ ?_|with_reducible intro hx|exact Is.mk rfl rfl|(with_reducible first|apply Val.via|apply ValH.via)|refine ifB_intro ?_ ?_|refine xA (by omega) ?_|(refine xB ?_;intro kw hk1 hk2)|refine xC (by omega) ?_|refine xD ?_|refine xE (by omega) ?_|refine xF (by omega) ?_|refine xG ?_|refine xH ?_|refine xI (by omega) ?_|refine xJ (by omega) ?_|(with_reducible refine stopA ?_)|refine Exists.intro _ (And.intro (by (first|exact vat_nd rfl rfl|exact vat_rowsN hk0 rfl|exact vat_of rfl rfl rfl|rfl)) ?_)|(first|(refine stopO (GOp'.grow0 rfl sty_T (d:= .slice 9) Tryz.underlying69 (by intro k h;cases h) (.inl rfl) (m:=2) (l:= [strV x,strV [40]]) (by intro y;first|exact velems_T _ _|rfl) (by first|exact one_T _|rfl) (by omega) (by omega) ?_))|(refine stopO (GOp'.grow rfl sty_T (d:= .slice 9) Tryz.underlying69 (by intro k h;cases h) rfl (m:=2) (l:= [strV x,strV [40]]) (by first|exact velems_T _ _|rfl) (by first|exact one_T _|rfl) rfl (by first|(simp;done)|(simp;omega)) (by omega) (by omega) ?_))|(refine stopO (GOp'.grow0 rfl sty_T (d:= .slice 9) Tryz.underlying69 (by intro k h;cases h) (.inl rfl) (m:=1) (l:= [strV [41]]) (by intro y;first|exact velems_T _ _|rfl) (by first|exact one_T _|rfl) (by omega) (by omega) ?_))|(refine stopO (GOp'.grow rfl sty_T (d:= .slice 9) Tryz.underlying69 (by intro k h;cases h) rfl (m:=1) (l:= [strV [41]]) (by first|exact velems_T _ _|rfl) (by first|exact one_T _|rfl) rfl (by first|(simp;done)|(simp;omega)) (by omega) (by omega) ?_))|(refine stopO (GOp'.grow0 rfl sty_T (d:= .slice 9) Tryz.underlying69 (by intro k h;cases h) (.inl rfl) (m:=xs.length) (l:=xs.map strV) (by intro y;first|exact velems_T _ _|rfl) (by first|exact one_T _|rfl) (by omega) (by omega) ?_))|(refine stopO (GOp'.grow rfl sty_T (d:= .slice 9) Tryz.underlying69 (by intro k h;cases h) rfl (m:=xs.length) (l:=xs.map strV) (by first|exact velems_T _ _|rfl) (by first|exact one_T _|rfl) rfl (by first|(simp;done)|(simp;omega)) (by omega) (by omega) ?_)))|refine GOp.drawn (by rfl) (by rfl) (Nat.le_of_ble_eq_true (by rfl)) (by rfl)|refine GOp.via (by rfl) ?_|refine GWP.drawY mixed _ (by kernel_rfl) (by rfl) ?_|(first|(refine GCall.mk (VCall.inl Tryz.func49 rfl ?_))|(refine GCall.mk ((kk _).mono ?_);rintro _ _ ⟨rfl,rfl⟩))|(with_reducible first|refine stopO ?_|refine stopE ?_|refine stopD ?_|refine stopW ?_|refine stopG ?_|refine stopC ?_|refine stopR ?_))))
 (all_goals (first|omega|contradiction|skip))
 (all_goals exact Done'.mk (frz_gsT rfl (by simp) (by simp;(try omega))))
theorem mulU {a b z k:Nat} (hz:z=k) (h:a=b):a*z=b*k:=by subst hz h;rfl
theorem rowCut {ks vs:List Nd} {b:Nd} (e:ks=vs++ [b]):(rowsN ks).take (vs.length*4)=rowsN vs:=by
 subst e
 rw [rowsN_snoc,List.take_left' (rowsN_len vs)]
theorem rowArg {ks vs:List Nd} {b:Nd} (e:ks=vs++ [b]) {n:Nat} {w:List VV} (hn:n=vs.length) (hw:w=((rowsN ks).drop (0*4)).take (n*4)):VV.ro n w= .ro vs.length (rowsN vs):=by
 subst hn hw
 rw [Nat.zero_mul,List.drop_zero,rowCut e]
theorem sg1 (x:List UInt8) (vs:List Nd) (b:Nd) (hs: ∀ k∈vs,SgOkN k) (hM:sumT vs≤1000000) (hl:(rowT (vs.map tk)).length≤1000000) (hb:SgOkN b) (hlb:(tk b).length≤1000000) (hvl:vs.length≤100000):SgOkN (.mk 1 x 0 (vs++ [b])):=fun H=>by
 (refine VCall.frozen (Q:=fun w K=>Frz K w (roT (tk (.mk 1 x 0 (vs++ [b]))))) (by simp [nameless_nV]) ?_ (fun _ _ h=>h))
 rw [tk1,nV,cellsN]
 have kk:=fun H=>row_call vs hM hs H
 have kb:=fun H=>hb H
 generalize rowT (vs.map tk)=xs at *
 generalize tk b=ys at *
 have hk0:(vs++ [b])[vs.length]? = some b:=by simp
 have hlen:(vs++ [b]).length=vs.length+1:=by simp
 obtain ⟨ks,hks⟩: ∃ ks,vs++ [b]=ks:=⟨_,rfl⟩
 rw [hks] at hk0 hlen ⊢
 obtain ⟨op1,tx1,nm1,b2⟩:=b
 simp only [nV,cellsN,roT] at kk kb
 (refine VCall.go Tryz.func26 rfl ?_)
 (repeat' (first|with_reducible refine And.intro ?_ ?_|((with_reducible intro hc);(try simp only [zA,zB,zC,zD,zE,zF,zG,zH,zI,zJ,zK,zL,zM,zN,zO,zP,zQ,zR,zS,zT,zU,zV,zW] at hc);(first|exact absurd rfl hc|exact absurd trivial hc|(exfalso;omega)|skip))|exact Is.mk rfl rfl|((conv=>whnf);first|with_reducible refine And.intro ?_ ?_|with_reducible intro hx|exact Is.mk rfl rfl|(with_reducible first|apply Val.via|apply ValH.via)|refine ifB_intro ?_ ?_|refine xA (by omega) ?_|(refine xB ?_;intro kw hk1 hk2)|refine xC (by omega) ?_|refine xD ?_|refine xE (by omega) ?_|refine xF (by omega) ?_|refine xG ?_|refine xH ?_|refine xI (by omega) ?_|refine xJ (by omega) ?_|(with_reducible refine stopA ?_)|refine Exists.intro _ (And.intro (by (first|exact vat_nd rfl rfl|exact vat_rowsN hk0 (mulU rfl (by omega))|exact vat_of rfl rfl rfl|rfl)) ?_)|(first|(refine stopO (GOp'.grow0 rfl sty_T (d:= .slice 9) Tryz.underlying69 (by intro k h;cases h) (.inl rfl) (m:=3) (l:= [strV [111,110],strV x,strV [40]]) (by intro y;first|exact velems_T _ _|rfl) (by first|exact one_T _|rfl) (by omega) (by omega) ?_))|(refine stopO (GOp'.grow rfl sty_T (d:= .slice 9) Tryz.underlying69 (by intro k h;cases h) rfl (m:=3) (l:= [strV [111,110],strV x,strV [40]]) (by first|exact velems_T _ _|rfl) (by first|exact one_T _|rfl) rfl (by first|(simp;done)|(simp;omega)) (by omega) (by omega) ?_))|(refine stopO (GOp'.grow0 rfl sty_T (d:= .slice 9) Tryz.underlying69 (by intro k h;cases h) (.inl rfl) (m:=1) (l:= [strV [41]]) (by intro y;first|exact velems_T _ _|rfl) (by first|exact one_T _|rfl) (by omega) (by omega) ?_))|(refine stopO (GOp'.grow rfl sty_T (d:= .slice 9) Tryz.underlying69 (by intro k h;cases h) rfl (m:=1) (l:= [strV [41]]) (by first|exact velems_T _ _|rfl) (by first|exact one_T _|rfl) rfl (by first|(simp;done)|(simp;omega)) (by omega) (by omega) ?_))|(refine stopO (GOp'.grow0 rfl sty_T (d:= .slice 9) Tryz.underlying69 (by intro k h;cases h) (.inl rfl) (m:=xs.length) (l:=xs.map strV) (by intro y;first|exact velems_T _ _|rfl) (by first|exact one_T _|rfl) (by omega) (by omega) ?_))|(refine stopO (GOp'.grow rfl sty_T (d:= .slice 9) Tryz.underlying69 (by intro k h;cases h) rfl (m:=xs.length) (l:=xs.map strV) (by first|exact velems_T _ _|rfl) (by first|exact one_T _|rfl) rfl (by first|(simp;done)|(simp;omega)) (by omega) (by omega) ?_))|(refine stopO (GOp'.grow0 rfl sty_T (d:= .slice 9) Tryz.underlying69 (by intro k h;cases h) (.inl rfl) (m:=ys.length) (l:=ys.map strV) (by intro y;first|exact velems_T _ _|rfl) (by first|exact one_T _|rfl) (by omega) (by omega) ?_))|(refine stopO (GOp'.grow rfl sty_T (d:= .slice 9) Tryz.underlying69 (by intro k h;cases h) rfl (m:=ys.length) (l:=ys.map strV) (by first|exact velems_T _ _|rfl) (by first|exact one_T _|rfl) rfl (by first|(simp;done)|(simp;omega)) (by omega) (by omega) ?_)))|refine GOp.drawn (by rfl) (by rfl) (Nat.le_of_ble_eq_true (by rfl)) (by rfl)|refine GOp.via (by rfl) ?_|refine GWP.drawY mixed _ (by kernel_rfl) (by rfl) ?_|(first|(refine GCall.mk (VCall.inl Tryz.func49 rfl ?_))|(refine GCall.mk ((kb _).mono ?_);rintro _ _ ⟨rfl,rfl⟩)|(refine GCall.arg1 (rowArg hks.symm (by omega) rfl) ?_;(refine GCall.mk ((kk _).mono ?_);rintro _ _ ⟨rfl,rfl⟩)))|(with_reducible first|refine stopO ?_|refine stopE ?_|refine stopD ?_|refine stopW ?_|refine stopG ?_|refine stopC ?_|refine stopR ?_))))
 (all_goals (first|omega|contradiction|skip))
 (all_goals exact Done'.mk (frz_gsT rfl (by simp) (by simp;(try omega))))
end Go.Proofs.YtnmjdjldbloefaaGreatDoor
