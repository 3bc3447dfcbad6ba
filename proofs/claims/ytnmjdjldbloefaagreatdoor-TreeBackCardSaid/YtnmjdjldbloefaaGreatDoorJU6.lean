import Derived.Test.YtnmjdjldbloefaaGreatDoorJU5
import Derived.Test.YtnmjdjldbloefaaGreatDoorJU1
import Derived.Test.YtnmjdjldbloefaaGreatDoorJH6
/- A tree's text, walked: Print = joinG of its signs. -/
namespace Go.Proofs.YtnmjdjldbloefaaGreatDoor
open Go Go.RowKit
set_option linter.unusedSimpArgs false
set_option linter.unusedVariables false
set_option maxRecDepth 100000
set_option maxHeartbeats 8000000
theorem tk_len (n:Nd):(tk n).length=(sgN n).length:=by unfold tk;rw [List.length_map]
theorem tk_ne {d:Nat} {n:Nd} (h:FitE d n):tk n≠ []:=by
 obtain ⟨g,L,h1,_⟩:=headE h
 unfold tk
 rw [h1]
 simp
theorem opOk_of {d:Nat} {n:Nd} (h:FitE d n):OpOk n:=by
 intro x m ks e
 subst e
 cases h with
 | bin hx ha fa hb fb=>exact hx
theorem sumT_le {ks:List Nd} (h: ∀ k∈ks,(sgN k).length+3≤9*cntN k):sumT ks≤9*cntL ks:=by
 induction ks with
 | nil=>simp [sumT,cntL]
 | cons k r ih =>
  have h1:=h k (List.mem_cons_self ..)
  have h2:=ih fun k' hk'=>h k' (List.mem_cons_of_mem _ hk')
  unfold sumT at h2 ⊢
  rw [List.map_cons,List.sum_cons,cntL,tk_len]
  omega
theorem sumT_G (ks:List Nd):sumT ks=sumG ks:=by
 unfold sumT sumG
 congr 1
 exact List.map_congr_left fun k _=>by rw [tk_len]
theorem row_le (ks:List Nd):(rowT (ks.map tk)).length≤sumT ks:=by
 rw [← rowT_eq,List.length_map,sumT_G]
 have:=rowG_len ks
 split at this
 ·rename_i h;subst h;simp [rowG]
 ·omega
theorem size_E {d:Nat} {n:Nd} (h:FitE d n):(sgN n).length+3≤9*cntN n:=by
 induction h with
 | num h=>rw [sgN_mk,cntN,cntL];simp [bldG]
 | text h hl=>rw [sgN_mk,cntN,cntL];simp [bldG]
 | nil=>rw [sgN_mk,cntN,cntL];simp [bldG]
 | var h=>rw [sgN_mk,cntN,cntL];simp [bldG]
 | @call d x ks h h16 hk ih =>
  rw [sgN_call,cntN]
  have h1:=sumT_le ih
  have h2:=row_le ks
  rw [← rowT_eq,List.length_map] at h2
  simp only [List.length_cons,List.length_append,List.length_nil]
  omega
 | @bin d da db x a b hx ha fa hb fb iha ihb =>
  rw [sgN_bin,cntN,cntL,cntL,cntL]
  unfold sgI
  simp only [List.length_append,List.length_cons,brG_len]
  split <;> split <;> omega
 | @un d dk x k hx hd hk fk ih =>
  rw [sgN_un,cntN,cntL,cntL]
  unfold sgI
  simp only [List.length_cons,brG_len]
  split <;> omega
theorem flat_le {ks:List Nd} (h: ∀ k∈ks,(sgN k).length+3≤9*cntN k):(ks.map sgN).flatten.length≤9*cntL ks:=by
 have h1:=sumT_le h
 have h2:(ks.map sgN).flatten.length≤sumT ks:=by
  rw [flat_len,sumT_G]
  unfold sumG
  clear h h1
  induction ks with
  | nil=>simp
  | cons k r ih=>simp only [List.map_cons,List.sum_cons];omega
 omega
theorem size_S {i d:Nat} {n:Nd} (h:FitS i d n):(sgN n).length+3≤9*cntN n:=by
 induction h with
 | set h hn =>
  have:=size_E hn
  rw [sgN_mk,cntN,cntL,cntL]
  simp only [bldG,List.map_cons,List.map_nil,List.getD_cons_zero,List.length_cons,List.length_append,List.length_nil]
  omega
 | do_ hn =>
  have:=size_E hn
  rw [sgN_mk,cntN,cntL,cntL]
  simp only [bldG,List.map_cons,List.map_nil,List.getD_cons_zero,List.length_cons,List.length_append,List.length_nil]
  omega
 | if2 hn hb ihb =>
  have:=size_E hn
  rw [sgN_mk,cntN,cntL,cntL,cntL]
  simp only [bldG,List.map_cons,List.map_nil,List.getD_cons_zero,List.getD_cons_succ,List.length_cons,List.length_append,List.length_nil]
  rw [if_neg (by decide)]
  simp only [List.length_nil]
  omega
 | if3 hn hb hc ihb ihc =>
  have:=size_E hn
  rw [sgN_mk,cntN,cntL,cntL,cntL,cntL]
  simp only [bldG,List.map_cons,List.map_nil,List.getD_cons_zero,List.getD_cons_succ,List.length_cons,List.length_append,List.length_nil,if_true]
  omega
 | while_ hn hb ihb =>
  have:=size_E hn
  rw [sgN_mk,cntN,cntL,cntL,cntL]
  simp only [bldG,List.map_cons,List.map_nil,List.getD_cons_zero,List.getD_cons_succ,List.length_cons,List.length_append,List.length_nil]
  omega
 | stop=>rw [sgN_mk,cntN,cntL];simp [bldG]
 | @block d ks hd hk ih =>
  have h1:=flat_le ih
  rw [sgN_mk,cntN]
  simp only [bldG,List.length_cons,List.length_append,List.length_nil]
  omega
theorem sgE (hI:ItoaOk) (hQ:QuoteOk): ∀ (N:Nat) (n:Nd) (d:Nat),cntN n≤N→cntN n≤14000→FitE d n→SgOkN n
 | 0,n,d,h,_,_=>by have:=cntN_pos n;omega
 | N+1,n,d,h,h14,hf=>by
  have ih: ∀ k d,cntN k < cntN n→FitE d k→SgOkN k:=fun k d hk hk2=>sgE hI hQ N k d (by omega) (by omega) hk2
  cases hf with
  | num hv=>exact sg8 hI hv
  | text h hl=>exact sg9 hQ hl
  | nil=>exact sg10
  | var h=>exact sg11 _
  | @call _ x ks h h16 hk =>
   have h1:=sumT_le fun k hm=>size_E (hk k hm)
   have hc:cntN (.mk 12 x 0 ks)=1+cntL ks:=by rw [cntN]
   have h2:=row_le ks
   exact sg12 x ks (fun k hm=>ih k _ (cntN_kid hm) (hk k hm)) (by omega) (by omega)
  | @bin _ da db x a b hx ha fa hb fb =>
   have ca:=cntN_kid (op:=13) (tx:=x) (nm:=0) (ks:= [a,b]) (k:=a) (by simp)
   have cb:=cntN_kid (op:=13) (tx:=x) (nm:=0) (ks:= [a,b]) (k:=b) (by simp)
   have za:=size_E fa
   have zb:=size_E fb
   rw [← tk_len] at za zb
   exact sg13 x a b hx (opOk_of fa) (opOk_of fb) (tk_ne fa) (tk_ne fb) (ih a _ ca fa) (ih b _ cb fb) (by omega) (by omega)
  | @un _ dk x k hx hd hk fk =>
   have ck:=cntN_kid (op:=14) (tx:=x) (nm:=0) (ks:= [k]) (k:=k) (by simp)
   have zk:=size_E fk
   rw [← tk_len] at zk
   exact sg14 x k (opOk_of fk) (tk_ne fk) (ih k _ ck fk) (by omega)
theorem sgS (hI:ItoaOk) (hQ:QuoteOk): ∀ (N:Nat) (n:Nd) (i d:Nat),cntN n≤N→cntN n≤14000→FitS i d n→SgOkN n
 | 0,n,i,d,h,_,_=>by have:=cntN_pos n;omega
 | N+1,n,i,d,h,h14,hf=>by
  have ih: ∀ k i d,cntN k < cntN n→FitS i d k→SgOkN k:=fun k i d hk hk2=>sgS hI hQ N k i d (by omega) (by omega) hk2
  have he: ∀ k d,cntN k < cntN n→FitE d k→SgOkN k∧(tk k).length≤1000000:=fun k d hk hk2=>⟨sgE hI hQ 14000 k d (by omega) (by omega) hk2,by rw [tk_len];have:=size_E hk2;omega⟩
  have hs: ∀ k i d,cntN k < cntN n→FitS i d k→(tk k).length≤1000000:=fun k i d hk hk2=>by rw [tk_len];have:=size_S hk2;omega
  cases hf with
  | set h hn =>
   obtain ⟨a,b⟩:=he _ _ (cntN_kid (by simp)) hn
   exact sg3 _ _ a b
  | do_ hn =>
   obtain ⟨a,b⟩:=he _ _ (cntN_kid (by simp)) hn
   exact sg4 _ a b
  | if2 hn hb =>
   obtain ⟨a,b⟩:=he _ _ (cntN_kid (by simp)) hn
   exact sg52 _ _ a (ih _ _ _ (cntN_kid (by simp)) hb) b (hs _ _ _ (cntN_kid (by simp)) hb)
  | if3 hn hb hc =>
   obtain ⟨a,b⟩:=he _ _ (cntN_kid (by simp)) hn
   exact sg53 _ _ _ a (ih _ _ _ (cntN_kid (by simp)) hb) (ih _ _ _ (cntN_kid (by simp)) hc) b (hs _ _ _ (cntN_kid (by simp)) hb) (hs _ _ _ (cntN_kid (by simp)) hc)
  | while_ hn hb =>
   obtain ⟨a,b⟩:=he _ _ (cntN_kid (by simp)) hn
   exact sg6 _ _ a (ih _ _ _ (cntN_kid (by simp)) hb) b (hs _ _ _ (cntN_kid (by simp)) hb)
  | stop=>exact sg7
  | @block _ ks hd hk =>
   have h1:=sumT_le fun k hm=>size_S (hk k hm)
   have hc:cntN (.mk 2 [] 0 ks)=1+cntL ks:=by rw [cntN]
   have hl:=len_le_cnt ks
   exact sg2 ks (fun k hm=>ih k _ _ (cntN_kid hm) (hk k hm)) (by omega) (by omega)
theorem cntL_app (a b:List Nd):cntL (a++b)=cntL a+cntL b:=by
 induction a with
 | nil=>simp [cntL]
 | cons k r ih=>rw [List.cons_append,cntL,cntL,ih];omega
theorem sgO (hI:ItoaOk) (hQ:QuoteOk) {n:Nd} (h14:cntN n≤14000) (h:FitO n):SgOkN n∧(sgN n).length+3≤9*cntN n:=by
 obtain ⟨x,ys,b,rfl,hx,hy,hb⟩:=h
 have hc:cntN (.mk 1 x 0 (ys.map (fun y=>Nd.mk 11 y 0 [])++ [b]))=1+cntL (ys.map (fun y=>Nd.mk 11 y 0 []))+cntN b:=by
  rw [cntN,cntL_app,cntL,cntL]
  omega
 have hv: ∀ k∈ys.map (fun y=>Nd.mk 11 y 0 []),FitE 0 k:=fun k hk=>by
  obtain ⟨y,hy2,rfl⟩:=List.mem_map.1 hk
  exact .var (hy y hy2)
 have h1:=sumT_le fun k hm=>size_E (hv k hm)
 have h2:=row_le (ys.map (fun y=>Nd.mk 11 y 0 []))
 have h3:=size_S hb
 have h4:=len_le_cnt (ys.map (fun y=>Nd.mk 11 y 0 []))
 refine ⟨sg1 x _ b (fun k hm=>by
  obtain ⟨y,hy2,rfl⟩:=List.mem_map.1 hm
  exact sg11 y) (by omega) (by omega) (sgS hI hQ 14000 b 1 0 (by omega) (by omega) hb) (by rw [tk_len];omega) (by omega),?_⟩
 rw [← tk_len,tk1]
 simp only [List.length_append,List.length_cons,List.length_nil,tk_len]
 omega
theorem sgScript (hI:ItoaOk) (hQ:QuoteOk) {ks:List Nd} (h14:cntN (.mk 0 [] 0 ks)≤14000) (h: ∀ k∈ks,FitO k):SgOkN (.mk 0 [] 0 ks):=by
 have hc:cntN (.mk 0 [] 0 ks)=1+cntL ks:=by rw [cntN]
 have hk: ∀ k∈ks,SgOkN k∧(sgN k).length+3≤9*cntN k:=fun k hm=>sgO hI hQ (by have:=cntN_kid (op:=0) (tx:= []) (nm:=0) hm;omega) (h k hm)
 have h1:=sumT_le fun k hm=>(hk k hm).2
 have hl:=len_le_cnt ks
 exact sg0 ks (fun k hm=>(hk k hm).1) (by omega) (by omega)
theorem joinG_eq: ∀ L:List Sg,Lib.join (L.map ownS) [32]=joinG L
 | []=>rfl
 | [g]=>by rw [List.map_cons,List.map_nil,Lib.join_one];rfl
 | g::k::r=>by
  have ih:=joinG_eq (k::r)
  simp only [List.map_cons] at ih ⊢
  rw [Lib.join_cons] at ih ⊢
  unfold Lib.joinTail at ih ⊢
  rw [List.map_cons,List.flatten_cons,joinG,← ih]
  simp
theorem joinG_len: ∀ {L:List Sg},(∀ g∈L,LexOk g)→(joinG L).length≤5002*L.length
 | [],_=>by simp [joinG]
 | [g],h=>by
  obtain ⟨c,x,h1,h2,h3,h4⟩:=(h g (List.mem_cons_self ..)).2
  rw [joinG,h1]
  simp
  omega
 | g::k::r,h=>by
  obtain ⟨c,x,h1,h2,h3,h4⟩:=(h g (List.mem_cons_self ..)).2
  have ih:=joinG_len (L:=k::r) fun g hg=>h g (List.mem_cons_of_mem _ hg)
  rw [joinG,h1,List.length_append,List.length_cons,List.length_cons]
  rw [List.length_cons (a:=g)]
  omega
theorem join0_call (H:Heap):VCall Tryz.prog 25 [.ro 0 [],strV [32]] H (fun v K=>v=strV []∧K=H):=VCall.closedA mixed 60 (by simp [nameless_strV];exact nameless_ro (by simp)) (by kernel_rfl)
theorem joinT_call (L:List Sg) (hL: ∀ g∈L,LexOk g) (hl:L.length≤1024) (H:Heap):VCall Tryz.prog 25 [roT (L.map ownS),strV [32]] H (fun v K=>v=strV (joinG L)∧K=H):=by
 by_cases h0:L= []
 ·subst h0
  exact join0_call H
 ·have hj:=joinG_len hL
  have:=join_call (L.map ownS) [32] (by simpa using h0) (by rw [List.length_map];omega) (by rw [joinG_eq];omega) H
  rw [joinG_eq] at this
  exact this
theorem print_call (hI:ItoaOk) (hQ:QuoteOk) {ks:List Nd} (h14:cntN (.mk 0 [] 0 ks)≤14000) (h: ∀ k∈ks,FitO k) (hc:(sgN (.mk 0 [] 0 ks)).length≤1024) (H:Heap):VCall Tryz.prog 11 [nV (.mk 0 [] 0 ks)] H (fun v K=>v=strV (joinG (sgN (.mk 0 [] 0 ks)))∧K=H):=by
 refine VCall.pure (by simp [nameless_nV]) (nameless_strV _) ?_
 have hL: ∀ g∈sgN (.mk 0 [] 0 ks),LexOk g:=by
  rw [show sgN (.mk 0 [] 0 ks)=(ks.map sgN).flatten by rw [sgN_mk];rfl]
  intro g hg
  obtain ⟨l,hl,hg⟩:=List.mem_flatten.1 hg
  obtain ⟨k,hk2,rfl⟩:=List.mem_map.1 hl
  exact lexO (h k hk2) g hg
 have kj:=fun H=>joinT_call _ hL hc H
 have ksg:=fun H=>sgScript hI hQ h14 h H
 have hlen:(tk (.mk 0 [] 0 ks)).length=(sgN (.mk 0 [] 0 ks)).length:=tk_len _
 unfold tk at ksg
 generalize sgN (.mk 0 [] 0 ks)=L at *
 simp only [nV,cellsN,roT] at ksg kj
 rw [nV,cellsN]
 refine VCall.go Tryz.func11 rfl ?_
 (repeat' (first|with_reducible refine And.intro ?_ ?_|((with_reducible intro hc);(try simp only [zA,zB,zC,zD,zE,zF,zG,zH,zI,zJ,zK,zL,zM,zN,zO,zP,zQ,zR,zS,zT,zU,zV,zW] at hc);(first|exact absurd rfl hc|exact absurd trivial hc|(exfalso;omega)|skip))|exact Is.mk rfl rfl|((conv=>whnf);first|with_reducible refine And.intro ?_ ?_|with_reducible intro hx|exact Is.mk rfl rfl|(with_reducible first|apply Val.via|apply ValH.via)|refine ifB_intro ?_ ?_|refine xA (by omega) ?_|(refine xB ?_;intro kw hk1 hk2)|refine xC (by omega) ?_|refine xD ?_|refine xE (by omega) ?_|refine xF (by omega) ?_|refine xG ?_|refine xH ?_|refine xI (by omega) ?_|refine xJ (by omega) ?_|(with_reducible refine stopA ?_)|refine Exists.intro _ (And.intro (by (first|exact vat_nd rfl rfl|exact vat_of rfl rfl rfl|rfl)) ?_)|refine GOp.drawn (by rfl) (by rfl) (Nat.le_of_ble_eq_true (by rfl)) (by rfl)|refine GOp.via (by rfl) ?_|refine GWP.drawY mixed _ (by kernel_rfl) (by rfl) ?_|(first|(refine GCall.mk ((ksg _).mono ?_);rintro _ _ ⟨rfl,rfl⟩)|(refine GCall.mk ((kj _).mono ?_);rintro _ _ ⟨rfl,rfl⟩))|(with_reducible first|refine stopO ?_|refine stopE ?_|refine stopD ?_|refine stopW ?_|refine stopG ?_|refine stopC ?_|refine stopR ?_))))
 (all_goals (first|omega|contradiction|skip))
 all_goals exact Done'.mk rfl
end Go.Proofs.YtnmjdjldbloefaaGreatDoor
namespace Go.Proofs.YtnmjdjldbloefaaGreatDoor
open Go Go.RowKit
set_option linter.unusedSimpArgs false
set_option linter.unusedVariables false
set_option maxRecDepth 100000
set_option maxHeartbeats 8000000
theorem signs_long (t:List UInt8) (h:4096 < t.length) (H:Heap):VCall Tryz.prog 17 [roB t] H (fun v K=>v=sgsR (.inl 3)∧K=H):=by
 refine VCall.frozen (Q:=fun v K=>Frz K v (sgsR (.inl 3))) (by simp [nameless_roB]) ?_ (fun v K h=>h)
 refine VCall.go Tryz.func17 rfl ?_
 (repeat' (first|with_reducible refine And.intro ?_ ?_|((with_reducible intro hc);(try simp only [zA,zB,zC,zD,zE,zF,zG,zH,zI,zJ,zK,zL,zM,zN,zO,zP,zQ,zR,zS,zT,zU,zV,zW] at hc);(first|exact absurd rfl hc|exact absurd trivial hc|(exfalso;omega)|skip))|exact Is.mk rfl rfl|((conv=>whnf);first|with_reducible refine And.intro ?_ ?_|with_reducible intro hx|exact Is.mk rfl rfl|(with_reducible first|apply Val.via|apply ValH.via)|refine ifB_intro ?_ ?_|refine xA (by omega) ?_|(refine xB ?_;intro kw hk1 hk2)|refine xC (by omega) ?_|refine xD ?_|refine xE (by omega) ?_|refine xF (by omega) ?_|refine xG ?_|refine xH ?_|refine xI (by omega) ?_|refine xJ (by omega) ?_|(with_reducible refine stopA ?_)|refine Exists.intro _ (And.intro (by (first|exact vat_nd rfl rfl|exact vat_of rfl rfl rfl|rfl)) ?_)|refine GOp.drawn (by rfl) (by rfl) (Nat.le_of_ble_eq_true (by rfl)) (by rfl)|refine GOp.via (by rfl) ?_|refine GWP.drawY mixed _ (by kernel_rfl) (by rfl) ?_|fail|(with_reducible first|refine stopO ?_|refine stopE ?_|refine stopD ?_|refine stopW ?_|refine stopG ?_|refine stopC ?_|refine stopR ?_))))
 (all_goals (first|omega|contradiction|skip))
 all_goals exact Done'.mk (Frz.tp (.cons Frz.nil0 (.cons (Frz.of (nameless_sc _)) .nil)))
theorem parseA_call (t:List UInt8) (H:Heap):VCall Tryz.prog 8 [roB t] H (fun v K=>v= .tp [nV (parseT t).1,iV (parseT t).2]∧K=H):=by
 by_cases ht:t.length≤50000
 ·exact parse_call t ht H
 ·have hsg:=fun H=>signs_long t (by omega) H
  rw [parse_long (show 4096 < t.length by omega)]
  refine VCall.frozen (Q:=fun v K=>Frz K v (.tp [nV nd0,iV 3])) (by simp [nameless_roB]) ?_ (fun v K h=>h)
  have hz:nV nd0= .ag [iV 0,strV [],iV 0,.ro 0 []]:=by rw [nd0,nV,cellsN,rowsN];rfl
  rw [hz]
  simp only [sgsR] at hsg
  refine VCall.go Tryz.func8 rfl ?_
  (repeat' (first|with_reducible refine And.intro ?_ ?_|((with_reducible intro hc);(try simp only [zA,zB,zC,zD,zE,zF,zG,zH,zI,zJ,zK,zL,zM,zN,zO,zP,zQ,zR,zS,zT,zU,zV,zW] at hc);(first|exact absurd rfl hc|exact absurd trivial hc|(exfalso;omega)|skip))|exact Is.mk rfl rfl|((conv=>whnf);first|with_reducible refine And.intro ?_ ?_|with_reducible intro hx|exact Is.mk rfl rfl|(with_reducible first|apply Val.via|apply ValH.via)|refine ifB_intro ?_ ?_|refine xA (by omega) ?_|(refine xB ?_;intro kw hk1 hk2)|refine xC (by omega) ?_|refine xD ?_|refine xE (by omega) ?_|refine xF (by omega) ?_|refine xG ?_|refine xH ?_|refine xI (by omega) ?_|refine xJ (by omega) ?_|(with_reducible refine stopA ?_)|refine Exists.intro _ (And.intro (by (first|exact vat_nd rfl rfl|exact vat_of rfl rfl rfl|rfl)) ?_)|refine GOp.drawn (by rfl) (by rfl) (Nat.le_of_ble_eq_true (by rfl)) (by rfl)|refine GOp.via (by rfl) ?_|refine GWP.drawY mixed _ (by kernel_rfl) (by rfl) ?_|(refine GCall.mk ((hsg _).mono ?_);rintro _ _ ⟨rfl,rfl⟩)|(with_reducible first|refine stopO ?_|refine stopE ?_|refine stopD ?_|refine stopW ?_|refine stopG ?_|refine stopC ?_|refine stopR ?_))))
  (all_goals (first|omega|contradiction|skip))
  all_goals exact Done'.mk (Frz.tp (.cons (Frz.agT (.cons (.of (nameless_sc _)) (.cons (.of (nameless_strV _)) (.cons (.of (nameless_sc _)) (.cons Frz.nil0 .nil))))) (.cons (.of (nameless_sc _)) .nil)))
theorem parseB (w:List UInt8) {n:Nd} {e:Nat} (hp:parseT w=(n,e)) {H:Heap} {b m:Nat} {c:Option Nat} {vs:List VV} (hg:H.get b=some (.cells true vs)) (hv:vs=w.map bV) (hn:m=w.length):VCall Tryz.prog 8 [.sl b 0 m c 1] H (fun v K=>v= .tp [nV n,iV e]∧K=H.del b):=by
 subst hv hn
 refine VCall.fzS hg (by simp) (nameless_map nameless_bV w) ?_
 rw [List.drop_zero,Nat.mul_one,List.take_of_length_le (by simp)]
 have:=parseA_call w (H.del b)
 rw [hp] at this
 exact this
theorem parseT_bad' (t:List UInt8) (h:(parseT t).2≠0):(parseT t).1=nd0:=by
 unfold parseT at h ⊢
 split at h
 ·rfl
 ·rename_i l hs
  split
  ·rfl
  ·rename_i h1
   rw [if_neg h1] at h
   split
   ·rfl
   ·rename_i h2
    rw [if_neg h2] at h
    exact absurd rfl h
theorem treeBack_walk (hI:ItoaOk) (hQ:QuoteOk) (t:List UInt8):VCall Tryz.prog 5 [roB t] ⟨[],0⟩ (fun v _=>v= .sc (.bool true)):=by
 have kl:=fun H=>lives20_call H
 by_cases ht:t.length≤1200
 case neg =>
  refine VCall.go Tryz.func5 rfl ?_
  (repeat' (first|with_reducible refine And.intro ?_ ?_|((with_reducible intro hc);(try simp only [zA,zB,zC,zD,zE,zF,zG,zH,zI,zJ,zK,zL,zM,zN,zO,zP,zQ,zR,zS,zT,zU,zV,zW] at hc);(first|exact absurd rfl hc|exact absurd trivial hc|(exfalso;omega)|skip))|exact Is.mk rfl rfl|((conv=>whnf);first|with_reducible refine And.intro ?_ ?_|with_reducible intro hx|exact Is.mk rfl rfl|(with_reducible first|apply Val.via|apply ValH.via)|refine ifB_intro ?_ ?_|refine xA (by omega) ?_|(refine xB ?_;intro kw hk1 hk2)|refine xC (by omega) ?_|refine xD ?_|refine xE (by omega) ?_|refine xF (by omega) ?_|refine xG ?_|refine xH ?_|refine xI (by omega) ?_|refine xJ (by omega) ?_|(with_reducible refine stopA ?_)|refine Exists.intro _ (And.intro (by (first|exact vat_nd rfl rfl|exact vat_of rfl rfl rfl|rfl)) ?_)|refine GOp.drawn (by rfl) (by rfl) (Nat.le_of_ble_eq_true (by rfl)) (by rfl)|refine GOp.via (by rfl) ?_|(refine GCall.mk ((kl _).mono ?_);rintro _ _ ⟨rfl,rfl⟩)|(with_reducible first|refine stopO ?_|refine stopE ?_|refine stopD ?_|refine stopW ?_|refine stopG ?_|refine stopC ?_|refine stopR ?_))))
  (all_goals (first|omega|contradiction|skip))
  all_goals exact Done'.mk rfl
 have kp:=fun H=>parse_call t (by omega) H
 have hcnt:=parseT_cnt t
 by_cases he:(parseT t).2=0
 case neg =>
  have hb:=parseT_bad' t he
  rw [hb,show nV nd0= .ag [iV 0,strV [],iV 0,.ro 0 []] by rw [nd0,nV,cellsN,rowsN];rfl] at kp
  generalize (parseT t).2=e at *
  refine VCall.go Tryz.func5 rfl ?_
  (repeat' (first|with_reducible refine And.intro ?_ ?_|((with_reducible intro hc);(try simp only [zA,zB,zC,zD,zE,zF,zG,zH,zI,zJ,zK,zL,zM,zN,zO,zP,zQ,zR,zS,zT,zU,zV,zW] at hc);(first|exact absurd rfl hc|exact absurd trivial hc|(exfalso;omega)|skip))|exact Is.mk rfl rfl|((conv=>whnf);first|with_reducible refine And.intro ?_ ?_|with_reducible intro hx|exact Is.mk rfl rfl|(with_reducible first|apply Val.via|apply ValH.via)|refine ifB_intro ?_ ?_|refine xA (by omega) ?_|(refine xB ?_;intro kw hk1 hk2)|refine xC (by omega) ?_|refine xD ?_|refine xE (by omega) ?_|refine xF (by omega) ?_|refine xG ?_|refine xH ?_|refine xI (by omega) ?_|refine xJ (by omega) ?_|(with_reducible refine stopA ?_)|refine Exists.intro _ (And.intro (by (first|exact vat_nd rfl rfl|exact vat_of rfl rfl rfl|rfl)) ?_)|refine GOp.drawn (by rfl) (by rfl) (Nat.le_of_ble_eq_true (by rfl)) (by rfl)|refine GOp.via (by rfl) ?_|(first|(refine GCall.mk ((kl _).mono ?_);rintro _ _ ⟨rfl,rfl⟩)|(refine GCall.mk ((kp _).mono ?_);rintro _ _ ⟨rfl,rfl⟩))|(with_reducible first|refine stopO ?_|refine stopE ?_|refine stopD ?_|refine stopW ?_|refine stopG ?_|refine stopC ?_|refine stopR ?_))))
  (all_goals (first|omega|contradiction|skip))
  all_goals exact Done'.mk rfl
 obtain ⟨ks,h1,h2,h3,h4⟩:=back_fit ht he
 rw [h1] at hcnt h3
 rw [h1,he] at kp
 have kpr:=fun H=>print_call hI hQ hcnt h2 h3 H
 have ks0:=fun H=>same_call 14000 _ hcnt (by omega) H
 have hlong:=fun h=>parse_long (p:=joinG (sgN (.mk 0 [] 0 ks))) h
 have hshort:=fun h=>back_law h2 h3 h4 h
 generalize joinG (sgN (.mk 0 [] 0 ks))=p at *
 simp only [nV,cellsN] at kp kpr ks0
 by_cases hp:p.length≤4096
 ·have kq:=fun {H b m c vs} hg hv hn=>parseB p (hshort hp) (H:=H) (b:=b) (m:=m) (c:=c) (vs:=vs) hg hv hn
  simp only [nV,cellsN] at kq
  refine VCall.go Tryz.func5 rfl ?_
  (repeat' (first|with_reducible refine And.intro ?_ ?_|((with_reducible intro hc);(try simp only [zA,zB,zC,zD,zE,zF,zG,zH,zI,zJ,zK,zL,zM,zN,zO,zP,zQ,zR,zS,zT,zU,zV,zW] at hc);(first|exact absurd rfl hc|exact absurd trivial hc|(exfalso;omega)|skip))|exact Is.mk rfl rfl|((conv=>whnf);first|with_reducible refine And.intro ?_ ?_|with_reducible intro hx|exact Is.mk rfl rfl|(with_reducible first|apply Val.via|apply ValH.via)|refine ifB_intro ?_ ?_|refine xA (by omega) ?_|(refine xB ?_;intro kw hk1 hk2)|refine xC (by omega) ?_|refine xD ?_|refine xE (by omega) ?_|refine xF (by omega) ?_|refine xG ?_|refine xH ?_|refine xI (by omega) ?_|refine xJ (by omega) ?_|(with_reducible refine stopA ?_)|refine Exists.intro _ (And.intro (by (first|exact vat_nd rfl rfl|exact vat_of rfl rfl rfl|rfl)) ?_)|refine GOp.drawn (by rfl) (by rfl) (Nat.le_of_ble_eq_true (by rfl)) (by rfl)|refine GOp.via (by rfl) ?_|refine GWP.drawY mixed _ (by kernel_rfl) (by rfl) ?_|(first|(refine GCall.mk ((kl _).mono ?_);rintro _ _ ⟨rfl,rfl⟩)|(refine GCall.mk ((kp _).mono ?_);rintro _ _ ⟨rfl,rfl⟩)|(refine GCall.mk ((kpr _).mono ?_);rintro _ _ ⟨rfl,rfl⟩)|(refine GCall.mk ((ks0 _).mono ?_);rintro _ _ ⟨rfl,rfl⟩)|(refine GCall.mk ((kq rfl rfl rfl).mono ?_);rintro _ _ ⟨rfl,rfl⟩))|(with_reducible first|refine stopO ?_|refine stopE ?_|refine stopD ?_|refine stopW ?_|refine stopG ?_|refine stopC ?_|refine stopR ?_))))
  (all_goals (first|omega|contradiction|skip))
  all_goals exact Done'.mk (congrArg (fun b=>VV.sc (.bool b)) (beq_self_eq_true _))
 ·have kq:=fun {H b m c vs} hg hv hn=>parseB p (hlong (by omega)) (H:=H) (b:=b) (m:=m) (c:=c) (vs:=vs) hg hv hn
  rw [show nV nd0= .ag [iV 0,strV [],iV 0,.ro 0 []] by rw [nd0,nV,cellsN,rowsN];rfl] at kq
  refine VCall.go Tryz.func5 rfl ?_
  (repeat' (first|with_reducible refine And.intro ?_ ?_|((with_reducible intro hc);(try simp only [zA,zB,zC,zD,zE,zF,zG,zH,zI,zJ,zK,zL,zM,zN,zO,zP,zQ,zR,zS,zT,zU,zV,zW] at hc);(first|exact absurd rfl hc|exact absurd trivial hc|(exfalso;omega)|skip))|exact Is.mk rfl rfl|((conv=>whnf);first|with_reducible refine And.intro ?_ ?_|with_reducible intro hx|exact Is.mk rfl rfl|(with_reducible first|apply Val.via|apply ValH.via)|refine ifB_intro ?_ ?_|refine xA (by omega) ?_|(refine xB ?_;intro kw hk1 hk2)|refine xC (by omega) ?_|refine xD ?_|refine xE (by omega) ?_|refine xF (by omega) ?_|refine xG ?_|refine xH ?_|refine xI (by omega) ?_|refine xJ (by omega) ?_|(with_reducible refine stopA ?_)|refine Exists.intro _ (And.intro (by (first|exact vat_nd rfl rfl|exact vat_of rfl rfl rfl|rfl)) ?_)|refine GOp.drawn (by rfl) (by rfl) (Nat.le_of_ble_eq_true (by rfl)) (by rfl)|refine GOp.via (by rfl) ?_|refine GWP.drawY mixed _ (by kernel_rfl) (by rfl) ?_|(first|(refine GCall.mk ((kl _).mono ?_);rintro _ _ ⟨rfl,rfl⟩)|(refine GCall.mk ((kp _).mono ?_);rintro _ _ ⟨rfl,rfl⟩)|(refine GCall.mk ((kpr _).mono ?_);rintro _ _ ⟨rfl,rfl⟩)|(refine GCall.mk ((kq rfl rfl rfl).mono ?_);rintro _ _ ⟨rfl,rfl⟩))|(with_reducible first|refine stopO ?_|refine stopE ?_|refine stopD ?_|refine stopW ?_|refine stopG ?_|refine stopC ?_|refine stopR ?_))))
  (all_goals (first|omega|contradiction|skip))
  all_goals exact Done'.mk rfl
end Go.Proofs.YtnmjdjldbloefaaGreatDoor
