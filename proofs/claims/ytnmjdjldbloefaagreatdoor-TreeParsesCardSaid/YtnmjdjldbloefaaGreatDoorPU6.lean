import Derived.Test.YtnmjdjldbloefaaGreatDoorPE5
import Derived.Test.YtnmjdjldbloefaaGreatDoorPU5
/- A tree's text, walked: Print = joinG of its signs. -/
namespace Go.Proofs.YtnmjdjldbloefaaGreatDoor
open Go Go.RowKit
set_option linter.unusedSimpArgs false
set_option linter.unusedVariables false
set_option maxRecDepth 100000
set_option maxHeartbeats 8000000
theorem Nh (n:Nd):(tk n).length=(sgN n).length:=by unfold tk;rw [List.length_map]
theorem tk_ne {d:Nat} {n:Nd} (h:FitE d n):tk n≠ []:=by
 obtain ⟨g,L,h1,_⟩:=headE h
 unfold tk
 rw [h1]
 simp
theorem Dg {d:Nat} {n:Nd} (h:FitE d n):OpOk n:=by
 intro x m ks e
 subst e
 cases h with
 | bin hx ha fa hb fb=>exact hx
theorem Db {ks:List Nd} (h: ∀ k∈ks,(sgN k).length+3≤9*cntN k):Ws ks≤9*cntL ks:=by
 induction ks with
 | nil=>simp [Ws,cntL]
 | cons k r ih =>
  have h1:=h k (List.mem_cons_self ..)
  have h2:=ih fun k' hk'=>h k' (List.mem_cons_of_mem _ hk')
  unfold Ws at h2 ⊢
  rw [List.map_cons,List.sum_cons,cntL,Nh]
  omega
theorem sumT_G (ks:List Nd):Ws ks=sumG ks:=by
 unfold Ws sumG
 congr 1
 exact List.map_congr_left fun k _=>by rw [Nh]
theorem row_le (ks:List Nd):(rowT (ks.map tk)).length≤Ws ks:=by
 rw [← Ez,List.length_map,sumT_G]
 have:=rowG_len ks
 split at this
 ·rename_i h;subst h;simp [rowG]
 ·omega
theorem W1 {d:Nat} {n:Nd} (h:FitE d n):(sgN n).length+3≤9*cntN n:=by
 induction h with
 | num h=>rw [Q2,cntN,cntL];simp [X4]
 | text h hl=>rw [Q2,cntN,cntL];simp [X4]
 | nil=>rw [Q2,cntN,cntL];simp [X4]
 | var h=>rw [Q2,cntN,cntL];simp [X4]
 | @call d x ks h h16 hk ih =>
  rw [Um,cntN]
  have h1:=Db ih
  have h2:=row_le ks
  rw [← Ez,List.length_map] at h2
  simp only [List.length_cons,List.length_append,List.length_nil]
  omega
 | @bin d da db x a b hx ha fa hb fb iha ihb =>
  rw [Ua,cntN,cntL,cntL,cntL]
  unfold sgI
  simp only [List.length_append,List.length_cons,Nb]
  split <;> split <;> omega
 | @un d dk x k hx hd hk fk ih =>
  rw [Ct,cntN,cntL,cntL]
  unfold sgI
  simp only [List.length_cons,Nb]
  split <;> omega
theorem flat_le {ks:List Nd} (h: ∀ k∈ks,(sgN k).length+3≤9*cntN k):(ks.map sgN).flatten.length≤9*cntL ks:=by
 have h1:=Db h
 have h2:(ks.map sgN).flatten.length≤Ws ks:=by
  rw [Fb,sumT_G]
  unfold sumG
  clear h h1
  induction ks with
  | nil=>simp
  | cons k r ih=>simp only [List.map_cons,List.sum_cons];omega
 omega
theorem size_S {i d:Nat} {n:Nd} (h:FitS i d n):(sgN n).length+3≤9*cntN n:=by
 induction h with
 | set h hn =>
  have:=W1 hn
  rw [Q2,cntN,cntL,cntL]
  simp only [X4,List.map_cons,List.map_nil,List.getD_cons_zero,List.length_cons,List.length_append,List.length_nil]
  omega
 | do_ hn =>
  have:=W1 hn
  rw [Q2,cntN,cntL,cntL]
  simp only [X4,List.map_cons,List.map_nil,List.getD_cons_zero,List.length_cons,List.length_append,List.length_nil]
  omega
 | if2 hn hb ihb =>
  have:=W1 hn
  rw [Q2,cntN,cntL,cntL,cntL]
  simp only [X4,List.map_cons,List.map_nil,List.getD_cons_zero,List.getD_cons_succ,List.length_cons,List.length_append,List.length_nil]
  rw [if_neg (by decide)]
  simp only [List.length_nil]
  omega
 | if3 hn hb hc ihb ihc =>
  have:=W1 hn
  rw [Q2,cntN,cntL,cntL,cntL,cntL]
  simp only [X4,List.map_cons,List.map_nil,List.getD_cons_zero,List.getD_cons_succ,List.length_cons,List.length_append,List.length_nil,if_true]
  omega
 | while_ hn hb ihb =>
  have:=W1 hn
  rw [Q2,cntN,cntL,cntL,cntL]
  simp only [X4,List.map_cons,List.map_nil,List.getD_cons_zero,List.getD_cons_succ,List.length_cons,List.length_append,List.length_nil]
  omega
 | stop=>rw [Q2,cntN,cntL];simp [X4]
 | @block d ks hd hk ih =>
  have h1:=flat_le ih
  rw [Q2,cntN]
  simp only [X4,List.length_cons,List.length_append,List.length_nil]
  omega
theorem sgE (hI:ItoaOk) (hQ:QuoteOk): ∀ (N:Nat) (n:Nd) (d:Nat),cntN n≤N→cntN n≤14000→FitE d n→Xo n
 | 0,n,d,h,_,_=>by have:=Bf n;omega
 | N+1,n,d,h,h14,hf=>by
  have ih: ∀ k d,cntN k < cntN n→FitE d k→Xo k:=fun k d hk hk2=>sgE hI hQ N k d (by omega) (by omega) hk2
  cases hf with
  | num hv=>exact sg8 hI hv
  | text h hl=>exact sg9 hQ hl
  | nil=>exact sg10
  | var h=>exact sg11 _
  | @call _ x ks h h16 hk =>
   have h1:=Db fun k hm=>W1 (hk k hm)
   have hc:cntN (.mk 12 x 0 ks)=1+cntL ks:=by rw [cntN]
   have h2:=row_le ks
   exact sg12 x ks (fun k hm=>ih k _ (Jh hm) (hk k hm)) (by omega) (by omega)
  | @bin _ da db x a b hx ha fa hb fb =>
   have ca:=Jh (op:=13) (tx:=x) (nm:=0) (ks:= [a,b]) (k:=a) (by simp)
   have cb:=Jh (op:=13) (tx:=x) (nm:=0) (ks:= [a,b]) (k:=b) (by simp)
   have za:=W1 fa
   have zb:=W1 fb
   rw [← Nh] at za zb
   exact sg13 x a b hx (Dg fa) (Dg fb) (tk_ne fa) (tk_ne fb) (ih a _ ca fa) (ih b _ cb fb) (by omega) (by omega)
  | @un _ dk x k hx hd hk fk =>
   have ck:=Jh (op:=14) (tx:=x) (nm:=0) (ks:= [k]) (k:=k) (by simp)
   have zk:=W1 fk
   rw [← Nh] at zk
   exact sg14 x k (Dg fk) (tk_ne fk) (ih k _ ck fk) (by omega)
theorem sgS (hI:ItoaOk) (hQ:QuoteOk): ∀ (N:Nat) (n:Nd) (i d:Nat),cntN n≤N→cntN n≤14000→FitS i d n→Xo n
 | 0,n,i,d,h,_,_=>by have:=Bf n;omega
 | N+1,n,i,d,h,h14,hf=>by
  have ih: ∀ k i d,cntN k < cntN n→FitS i d k→Xo k:=fun k i d hk hk2=>sgS hI hQ N k i d (by omega) (by omega) hk2
  have he: ∀ k d,cntN k < cntN n→FitE d k→Xo k∧(tk k).length≤1000000:=fun k d hk hk2=>⟨sgE hI hQ 14000 k d (by omega) (by omega) hk2,by rw [Nh];have:=W1 hk2;omega⟩
  have hs: ∀ k i d,cntN k < cntN n→FitS i d k→(tk k).length≤1000000:=fun k i d hk hk2=>by rw [Nh];have:=size_S hk2;omega
  cases hf with
  | set h hn =>
   obtain ⟨a,b⟩:=he _ _ (Jh (by simp)) hn
   exact sg3 _ _ a b
  | do_ hn =>
   obtain ⟨a,b⟩:=he _ _ (Jh (by simp)) hn
   exact sg4 _ a b
  | if2 hn hb =>
   obtain ⟨a,b⟩:=he _ _ (Jh (by simp)) hn
   exact sg52 _ _ a (ih _ _ _ (Jh (by simp)) hb) b (hs _ _ _ (Jh (by simp)) hb)
  | if3 hn hb hc =>
   obtain ⟨a,b⟩:=he _ _ (Jh (by simp)) hn
   exact sg53 _ _ _ a (ih _ _ _ (Jh (by simp)) hb) (ih _ _ _ (Jh (by simp)) hc) b (hs _ _ _ (Jh (by simp)) hb) (hs _ _ _ (Jh (by simp)) hc)
  | while_ hn hb =>
   obtain ⟨a,b⟩:=he _ _ (Jh (by simp)) hn
   exact sg6 _ _ a (ih _ _ _ (Jh (by simp)) hb) b (hs _ _ _ (Jh (by simp)) hb)
  | stop=>exact sg7
  | @block _ ks hd hk =>
   have h1:=Db fun k hm=>size_S (hk k hm)
   have hc:cntN (.mk 2 [] 0 ks)=1+cntL ks:=by rw [cntN]
   have hl:=Zf ks
   exact sg2 ks (fun k hm=>ih k _ _ (Jh hm) (hk k hm)) (by omega) (by omega)
theorem cntL_app (a b:List Nd):cntL (a++b)=cntL a+cntL b:=by
 induction a with
 | nil=>simp [cntL]
 | cons k r ih=>rw [List.cons_append,cntL,cntL,ih];omega
theorem sgO (hI:ItoaOk) (hQ:QuoteOk) {n:Nd} (h14:cntN n≤14000) (h:FitO n):Xo n∧(sgN n).length+3≤9*cntN n:=by
 obtain ⟨x,ys,b,rfl,hx,hy,hb⟩:=h
 have hc:cntN (.mk 1 x 0 (ys.map (fun y=>Nd.mk 11 y 0 [])++ [b]))=1+cntL (ys.map (fun y=>Nd.mk 11 y 0 []))+cntN b:=by
  rw [cntN,cntL_app,cntL,cntL]
  omega
 have hv: ∀ k∈ys.map (fun y=>Nd.mk 11 y 0 []),FitE 0 k:=fun k hk=>by
  obtain ⟨y,hy2,rfl⟩:=List.mem_map.1 hk
  exact .var (hy y hy2)
 have h1:=Db fun k hm=>W1 (hv k hm)
 have h2:=row_le (ys.map (fun y=>Nd.mk 11 y 0 []))
 have h3:=size_S hb
 have h4:=Zf (ys.map (fun y=>Nd.mk 11 y 0 []))
 refine ⟨sg1 x _ b (fun k hm=>by
  obtain ⟨y,hy2,rfl⟩:=List.mem_map.1 hm
  exact sg11 y) (by omega) (by omega) (sgS hI hQ 14000 b 1 0 (by omega) (by omega) hb) (by rw [Nh];omega) (by omega),?_⟩
 rw [← Nh,tk1]
 simp only [List.length_append,List.length_cons,List.length_nil,Nh]
 omega
theorem sgScript (hI:ItoaOk) (hQ:QuoteOk) {ks:List Nd} (h14:cntN (.mk 0 [] 0 ks)≤14000) (h: ∀ k∈ks,FitO k):Xo (.mk 0 [] 0 ks):=by
 have hc:cntN (.mk 0 [] 0 ks)=1+cntL ks:=by rw [cntN]
 have hk: ∀ k∈ks,Xo k∧(sgN k).length+3≤9*cntN k:=fun k hm=>sgO hI hQ (by have:=Jh (op:=0) (tx:= []) (nm:=0) hm;omega) (h k hm)
 have h1:=Db fun k hm=>(hk k hm).2
 have hl:=Zf ks
 exact sg0 ks (fun k hm=>(hk k hm).1) (by omega) (by omega)
theorem joinG_eq: ∀ L:List Sg,Lib.join (L.map Wh) [32]=joinG L
 | []=>rfl
 | [g]=>by rw [List.map_cons,List.map_nil,Lib.join_one];rfl
 | g::k::r=>by
  have ih:=joinG_eq (k::r)
  simp only [List.map_cons] at ih ⊢
  rw [Lib.join_cons] at ih ⊢
  unfold Lib.joinTail at ih ⊢
  rw [List.map_cons,List.flatten_cons,joinG,← ih]
  simp
theorem joinG_len: ∀ {L:List Sg},(∀ g∈L,Yu g)→(joinG L).length≤5002*L.length
 | [],_=>by simp [joinG]
 | [g],h=>by
  obtain ⟨c,x,h1,h2,h3,h4⟩:=(h g (List.mem_cons_self ..)).2
  rw [joinG,h1]
  simp
  omega
 | g::k::r,h=>by
  obtain ⟨c,x,h1,h2,h3,h4⟩:=(h g (List.mem_cons_self ..)).2
  have ih:=joinG_len (L:=k::r) fun g hg=>h g (List.mem_cons_of_mem _ hg)
  rw [joinG,h1,List.length_append,List.length_cons,List.length_cons]
  rw [List.length_cons (a:=g)]
  omega
theorem join0_call (H:Heap):Qc Tryz.prog 25 [.ro 0 [],Qe [32]] H (fun v K=>v=Qe []∧K=H):=Qc.closedA mixed 60 (by simp [Qd];exact Qx (by simp)) (by kernel_rfl)
theorem joinT_call (L:List Sg) (hL: ∀ g∈L,Yu g) (hl:L.length≤1024) (H:Heap):Qc Tryz.prog 25 [roT (L.map Wh),Qe [32]] H (fun v K=>v=Qe (joinG L)∧K=H):=by
 by_cases h0:L= []
 ·subst h0
  exact join0_call H
 ·have hj:=joinG_len hL
  have:=join_call (L.map Wh) [32] (by simpa using h0) (by rw [List.length_map];omega) (by rw [joinG_eq];omega) H
  rw [joinG_eq] at this
  exact this
theorem print_call (hI:ItoaOk) (hQ:QuoteOk) {ks:List Nd} (h14:cntN (.mk 0 [] 0 ks)≤14000) (h: ∀ k∈ks,FitO k) (hc:(sgN (.mk 0 [] 0 ks)).length≤1024) (H:Heap):Qc Tryz.prog 11 [nV (.mk 0 [] 0 ks)] H (fun v K=>v=Qe (joinG (sgN (.mk 0 [] 0 ks)))∧K=H):=by
 refine Qc.pure (by simp [Qk]) (Qd _) ?_
 have hL: ∀ g∈sgN (.mk 0 [] 0 ks),Yu g:=by
  rw [show sgN (.mk 0 [] 0 ks)=(ks.map sgN).flatten by rw [Q2];rfl]
  intro g hg
  obtain ⟨l,hl,hg⟩:=List.mem_flatten.1 hg
  obtain ⟨k,hk2,rfl⟩:=List.mem_map.1 hl
  exact lexO (h k hk2) g hg
 have kj:=fun H=>joinT_call _ hL hc H
 have ksg:=fun H=>sgScript hI hQ h14 h H
 have hlen:(tk (.mk 0 [] 0 ks)).length=(sgN (.mk 0 [] 0 ks)).length:=Nh _
 unfold tk at ksg
 generalize sgN (.mk 0 [] 0 ks)=L at *
 simp only [nV,cellsN,roT] at ksg kj
 rw [nV,cellsN]
 refine Qc.go Tryz.func11 rfl ?_
 (repeat' (first|with_reducible refine And.intro ?_ ?_|(with_reducible intro hc;(try simp only [zz] at hc);try exact ct)|((conv=>whnf);first|(with_reducible first|refine And.intro ?_ ?_|intro hx|apply Val.via|apply Qi.via)|exact Is.mk rfl rfl|refine sp ?_|refine vx (by (first|exact Qv rfl rfl|exact Qa rfl rfl rfl|rfl)) ?_|refine dY ?_|(first|refine cl (ksg _) ?_|refine cl (kj _) ?_)|refine sq ?_)))
 (all_goals try exact om)
 all_goals exact Qf.mk rfl
end Go.Proofs.YtnmjdjldbloefaaGreatDoor
