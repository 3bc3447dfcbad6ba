import Derived.Test.YtnmjdjldbloefaaGreatDoorPE5
import Derived.Test.YtnmjdjldbloefaaGreatDoorPU3
/- A tree's signs, walked: each kind of node. -/
namespace Go.Proofs.YtnmjdjldbloefaaGreatDoor
open Go Go.RowKit
set_option linter.unusedSimpArgs false
set_option linter.unusedVariables false
set_option maxRecDepth 100000
set_option maxHeartbeats 8000000
def ItoaOk:Prop:= ∀ v:Nat,v≤2147483648→ ∀ H,Qc Tryz.prog 51 [iV v] H (fun x K=>x=Qe (Lib.decDigits v)∧K=H)
def QuoteOk:Prop:= ∀ x:List UInt8,x.length≤1500→ ∀ H,Qc Tryz.prog 52 [Qe x] H (fun v K=>v=Qe (Wg x)∧K=H)
def Xo (n:Nd):Prop:= ∀ H,Qc Tryz.prog 26 [nV n] H (fun v K=>v=roT (tk n)∧K=H)
theorem tk8 (v:Nat):tk (.mk 8 [] v [])= [Lib.decDigits v]:=by unfold tk;rw [Q2];rfl
theorem tk9 (x:List UInt8):tk (.mk 9 x 0 [])= [Wg x]:=by unfold tk;rw [Q2];rfl
theorem tk10:tk (.mk 10 [] 0 [])= [[110,105,108]]:=by unfold tk;rw [Q2];rfl
theorem tk11 (x:List UInt8):tk (.mk 11 x 0 [])= [x]:=by unfold tk;rw [Q2];rfl
theorem tk7:tk (.mk 7 [] 0 [])= [[115,116,111,112],[59]]:=by unfold tk;rw [Q2];rfl
theorem tk3 (x:List UInt8) (k:Nd):tk (.mk 3 x 0 [k])= [x,[61]]++tk k++ [[59]]:=by unfold tk;rw [Q2];simp [X4];exact ⟨rfl,rfl,rfl⟩
theorem tk4 (k:Nd):tk (.mk 4 [] 0 [k])=tk k++ [[59]]:=by unfold tk;rw [Q2];simp [X4];rfl
theorem tk52 (k b:Nd):tk (.mk 5 [] 0 [k,b])= [[105,102]]++tk k++tk b:=by unfold tk;rw [Q2];simp [X4];rfl
theorem tk53 (k b c:Nd):tk (.mk 5 [] 0 [k,b,c])= [[105,102]]++tk k++tk b++ [[101,108,115,101]]++tk c:=by unfold tk;rw [Q2];simp [X4];exact ⟨rfl,rfl⟩
theorem tk6 (k b:Nd):tk (.mk 6 [] 0 [k,b])= [[119,104,105,108,101]]++tk k++tk b:=by unfold tk;rw [Q2];simp [X4];rfl
theorem tk12 (x:List UInt8) (ks:List Nd):tk (.mk 12 x 0 ks)= [x,[40]]++rowT (ks.map tk)++ [[41]]:=by
 rw [← Ez]
 unfold tk
 rw [Um]
 simp
 exact ⟨rfl,rfl,rfl⟩
theorem Df (x:List UInt8):Wh (opG x)=x:=by
 unfold opG
 split <;> rfl
theorem tk13 (x:List UInt8) (a b:Nd):tk (.mk 13 x 0 [a,b])=tkI (raO (lvO x)) a++ [x]++tkI (lvO x+1) b:=by
 unfold tk tkI
 rw [Ua,List.map_append,List.map_cons,Df]
 simp
theorem tk14 (x:List UInt8) (k:Nd):tk (.mk 14 x 0 [k])= [x]++tkI 5 k:=by
 unfold tk tkI
 rw [Ct,List.map_cons,Df]
 rfl
theorem tk0 (ks:List Nd):tk (.mk 0 [] 0 ks)=(ks.map tk).flatten:=by
 unfold tk
 rw [Q2]
 simp [X4,List.map_flatten]
 rfl
theorem tk2 (ks:List Nd):tk (.mk 2 [] 0 ks)= [[123]]++(ks.map tk).flatten++ [[125]]:=by
 unfold tk
 rw [Q2]
 simp [X4,List.map_flatten]
 exact ⟨rfl,rfl,rfl⟩
theorem tk1 (x:List UInt8) (vs:List Nd) (b:Nd):tk (.mk 1 x 0 (vs++ [b]))= [[111,110],x,[40]]++rowT (vs.map tk)++ [[41]]++tk b:=by
 rw [← Ez]
 unfold tk
 rw [Q2]
 simp only [X4,List.map_append,List.map_cons,List.map_nil,List.dropLast_concat,List.getLastD_concat]
 simp
 exact ⟨rfl,rfl,rfl,rfl⟩
theorem sg8 (hI:ItoaOk) {v:Nat} (h:v≤2147483648):Xo (.mk 8 [] v []):=fun H=>by
 have ki:=fun H=>hI v h H
 (refine Qc.frozen (Q:=fun w K=>Frz K w (roT (tk (.mk 8 [] v [])))) (by simp [Qk]) ?_ (fun _ _ h=>h))
 rw [tk8,nV,cellsN]
 (refine Qc.go Tryz.func26 rfl ?_)
 (repeat' (first|with_reducible refine And.intro ?_ ?_|(with_reducible intro hc;(try simp only [zz] at hc);try exact ct)|((conv=>whnf);first|(with_reducible first|refine And.intro ?_ ?_|intro hx|apply Val.via|apply Qi.via)|exact Is.mk rfl rfl|(first|(refine Qs (Qr.grow0 rfl sty_T (d:= .slice 9) Tryz.underlying69 (by intro k h;cases h) (.inl rfl) (m:=1) (l:= [Qe (Lib.decDigits v)]) (by intro y;first|exact Qt _ _|rfl) (by first|exact Je _|rfl) (by omega) (by omega) ?_))|(refine Qs (Qr.grow rfl sty_T (d:= .slice 9) Tryz.underlying69 (by intro k h;cases h) rfl (m:=1) (l:= [Qe (Lib.decDigits v)]) (by first|exact Qt _ _|rfl) (by first|exact Je _|rfl) rfl (by first|(simp;done)|(simp;omega)) (by omega) (by omega) ?_)))|refine sp ?_|refine vx (by (first|exact Qv rfl rfl|exact Q6 hk0 rfl|exact Qa rfl rfl rfl|rfl)) ?_|refine dY ?_|(first|(refine Q7.mk (Qc.inl Tryz.func49 rfl ?_))|refine cl (ki _) ?_)|refine sq ?_)))
 (all_goals try exact om)
 (all_goals exact Qf.mk (Yk rfl (by simp) (by simp;(try omega))))
theorem sg9 (hQ:QuoteOk) {x:List UInt8} (h:x.length≤1200):Xo (.mk 9 x 0 []):=fun H=>by
 have ki:=fun H=>hQ x (by omega) H
 (refine Qc.frozen (Q:=fun w K=>Frz K w (roT (tk (.mk 9 x 0 [])))) (by simp [Qk]) ?_ (fun _ _ h=>h))
 rw [tk9,nV,cellsN]
 (refine Qc.go Tryz.func26 rfl ?_)
 (repeat' (first|with_reducible refine And.intro ?_ ?_|(with_reducible intro hc;(try simp only [zz] at hc);try exact ct)|((conv=>whnf);first|(with_reducible first|refine And.intro ?_ ?_|intro hx|apply Val.via|apply Qi.via)|exact Is.mk rfl rfl|(first|(refine Qs (Qr.grow0 rfl sty_T (d:= .slice 9) Tryz.underlying69 (by intro k h;cases h) (.inl rfl) (m:=1) (l:= [Qe (Wg x)]) (by intro y;first|exact Qt _ _|rfl) (by first|exact Je _|rfl) (by omega) (by omega) ?_))|(refine Qs (Qr.grow rfl sty_T (d:= .slice 9) Tryz.underlying69 (by intro k h;cases h) rfl (m:=1) (l:= [Qe (Wg x)]) (by first|exact Qt _ _|rfl) (by first|exact Je _|rfl) rfl (by first|(simp;done)|(simp;omega)) (by omega) (by omega) ?_)))|refine sp ?_|refine vx (by (first|exact Qv rfl rfl|exact Q6 hk0 rfl|exact Qa rfl rfl rfl|rfl)) ?_|refine dY ?_|(first|(refine Q7.mk (Qc.inl Tryz.func49 rfl ?_))|refine cl (ki _) ?_)|refine sq ?_)))
 (all_goals try exact om)
 (all_goals exact Qf.mk (Yk rfl (by simp) (by simp;(try omega))))
theorem sg10:Xo (.mk 10 [] 0 []):=fun H=>by
 (refine Qc.frozen (Q:=fun w K=>Frz K w (roT (tk (.mk 10 [] 0 [])))) (by simp [Qk]) ?_ (fun _ _ h=>h))
 rw [tk10,nV,cellsN]
 (refine Qc.go Tryz.func26 rfl ?_)
 (repeat' (first|with_reducible refine And.intro ?_ ?_|(with_reducible intro hc;(try simp only [zz] at hc);try exact ct)|((conv=>whnf);first|(with_reducible first|refine And.intro ?_ ?_|intro hx|apply Val.via|apply Qi.via)|exact Is.mk rfl rfl|(first|(refine Qs (Qr.grow0 rfl sty_T (d:= .slice 9) Tryz.underlying69 (by intro k h;cases h) (.inl rfl) (m:=1) (l:= [Qe [110,105,108]]) (by intro y;first|exact Qt _ _|rfl) (by first|exact Je _|rfl) (by omega) (by omega) ?_))|(refine Qs (Qr.grow rfl sty_T (d:= .slice 9) Tryz.underlying69 (by intro k h;cases h) rfl (m:=1) (l:= [Qe [110,105,108]]) (by first|exact Qt _ _|rfl) (by first|exact Je _|rfl) rfl (by first|(simp;done)|(simp;omega)) (by omega) (by omega) ?_)))|refine sp ?_|refine vx (by (first|exact Qv rfl rfl|exact Q6 hk0 rfl|exact Qa rfl rfl rfl|rfl)) ?_|refine dY ?_|(refine Q7.mk (Qc.inl Tryz.func49 rfl ?_))|refine sq ?_)))
 (all_goals try exact om)
 (all_goals exact Qf.mk (Yk rfl (by simp) (by simp;(try omega))))
theorem sg11 (x:List UInt8):Xo (.mk 11 x 0 []):=fun H=>by
 (refine Qc.frozen (Q:=fun w K=>Frz K w (roT (tk (.mk 11 x 0 [])))) (by simp [Qk]) ?_ (fun _ _ h=>h))
 rw [tk11,nV,cellsN]
 (refine Qc.go Tryz.func26 rfl ?_)
 (repeat' (first|with_reducible refine And.intro ?_ ?_|(with_reducible intro hc;(try simp only [zz] at hc);try exact ct)|((conv=>whnf);first|(with_reducible first|refine And.intro ?_ ?_|intro hx|apply Val.via|apply Qi.via)|exact Is.mk rfl rfl|(first|(refine Qs (Qr.grow0 rfl sty_T (d:= .slice 9) Tryz.underlying69 (by intro k h;cases h) (.inl rfl) (m:=1) (l:= [Qe x]) (by intro y;first|exact Qt _ _|rfl) (by first|exact Je _|rfl) (by omega) (by omega) ?_))|(refine Qs (Qr.grow rfl sty_T (d:= .slice 9) Tryz.underlying69 (by intro k h;cases h) rfl (m:=1) (l:= [Qe x]) (by first|exact Qt _ _|rfl) (by first|exact Je _|rfl) rfl (by first|(simp;done)|(simp;omega)) (by omega) (by omega) ?_)))|refine sp ?_|refine vx (by (first|exact Qv rfl rfl|exact Q6 hk0 rfl|exact Qa rfl rfl rfl|rfl)) ?_|refine dY ?_|(refine Q7.mk (Qc.inl Tryz.func49 rfl ?_))|refine sq ?_)))
 (all_goals try exact om)
 (all_goals exact Qf.mk (Yk rfl (by simp) (by simp;(try omega))))
theorem sg7:Xo (.mk 7 [] 0 []):=fun H=>by
 (refine Qc.frozen (Q:=fun w K=>Frz K w (roT (tk (.mk 7 [] 0 [])))) (by simp [Qk]) ?_ (fun _ _ h=>h))
 rw [tk7,nV,cellsN]
 (refine Qc.go Tryz.func26 rfl ?_)
 (repeat' (first|with_reducible refine And.intro ?_ ?_|(with_reducible intro hc;(try simp only [zz] at hc);try exact ct)|((conv=>whnf);first|(with_reducible first|refine And.intro ?_ ?_|intro hx|apply Val.via|apply Qi.via)|exact Is.mk rfl rfl|(first|(refine Qs (Qr.grow0 rfl sty_T (d:= .slice 9) Tryz.underlying69 (by intro k h;cases h) (.inl rfl) (m:=2) (l:= [Qe [115,116,111,112],Qe [59]]) (by intro y;first|exact Qt _ _|rfl) (by first|exact Je _|rfl) (by omega) (by omega) ?_))|(refine Qs (Qr.grow rfl sty_T (d:= .slice 9) Tryz.underlying69 (by intro k h;cases h) rfl (m:=2) (l:= [Qe [115,116,111,112],Qe [59]]) (by first|exact Qt _ _|rfl) (by first|exact Je _|rfl) rfl (by first|(simp;done)|(simp;omega)) (by omega) (by omega) ?_)))|refine sp ?_|refine vx (by (first|exact Qv rfl rfl|exact Q6 hk0 rfl|exact Qa rfl rfl rfl|rfl)) ?_|refine dY ?_|(refine Q7.mk (Qc.inl Tryz.func49 rfl ?_))|refine sq ?_)))
 (all_goals try exact om)
 (all_goals exact Qf.mk (Yk rfl (by simp) (by simp;(try omega))))
theorem sg3 (x:List UInt8) (k:Nd) (hs:Xo k) (hl:(tk k).length≤1000000):Xo (.mk 3 x 0 [k]):=fun H=>by
 (refine Qc.frozen (Q:=fun w K=>Frz K w (roT (tk (.mk 3 x 0 [k])))) (by simp [Qk]) ?_ (fun _ _ h=>h))
 rw [tk3,nV,cellsN]
 have kk:=fun H=>hs H
 generalize tk k=xs at *
 have hk0: [k][0]? = some k:=rfl
 have hlen: [k].length=1:=rfl
 generalize [k]=ks at *
 obtain ⟨op,tx,nm,k2⟩:=k
 simp only [nV,cellsN,roT] at kk
 (refine Qc.go Tryz.func26 rfl ?_)
 (repeat' (first|with_reducible refine And.intro ?_ ?_|(with_reducible intro hc;(try simp only [zz] at hc);try exact ct)|((conv=>whnf);first|(with_reducible first|refine And.intro ?_ ?_|intro hx|apply Val.via|apply Qi.via)|exact Is.mk rfl rfl|(first|(refine Qs (Qr.grow0 rfl sty_T (d:= .slice 9) Tryz.underlying69 (by intro k h;cases h) (.inl rfl) (m:=2) (l:= [Qe x,Qe [61]]) (by intro y;first|exact Qt _ _|rfl) (by first|exact Je _|rfl) (by omega) (by omega) ?_))|(refine Qs (Qr.grow rfl sty_T (d:= .slice 9) Tryz.underlying69 (by intro k h;cases h) rfl (m:=2) (l:= [Qe x,Qe [61]]) (by first|exact Qt _ _|rfl) (by first|exact Je _|rfl) rfl (by first|(simp;done)|(simp;omega)) (by omega) (by omega) ?_))|(refine Qs (Qr.grow0 rfl sty_T (d:= .slice 9) Tryz.underlying69 (by intro k h;cases h) (.inl rfl) (m:=1) (l:= [Qe [59]]) (by intro y;first|exact Qt _ _|rfl) (by first|exact Je _|rfl) (by omega) (by omega) ?_))|(refine Qs (Qr.grow rfl sty_T (d:= .slice 9) Tryz.underlying69 (by intro k h;cases h) rfl (m:=1) (l:= [Qe [59]]) (by first|exact Qt _ _|rfl) (by first|exact Je _|rfl) rfl (by first|(simp;done)|(simp;omega)) (by omega) (by omega) ?_))|(refine Qs (Qr.grow0 rfl sty_T (d:= .slice 9) Tryz.underlying69 (by intro k h;cases h) (.inl rfl) (m:=xs.length) (l:=xs.map Qe) (by intro y;first|exact Qt _ _|rfl) (by first|exact Je _|rfl) (by omega) (by omega) ?_))|(refine Qs (Qr.grow rfl sty_T (d:= .slice 9) Tryz.underlying69 (by intro k h;cases h) rfl (m:=xs.length) (l:=xs.map Qe) (by first|exact Qt _ _|rfl) (by first|exact Je _|rfl) rfl (by first|(simp;done)|(simp;omega)) (by omega) (by omega) ?_)))|refine sp ?_|refine vx (by (first|exact Qv rfl rfl|exact Q6 hk0 rfl|exact Qa rfl rfl rfl|rfl)) ?_|refine dY ?_|(first|(refine Q7.mk (Qc.inl Tryz.func49 rfl ?_))|refine cl (kk _) ?_)|refine sq ?_)))
 (all_goals try exact om)
 (all_goals exact Qf.mk (Yk rfl (by simp) (by simp;(try omega))))
theorem sg4 (k:Nd) (hs:Xo k) (hl:(tk k).length≤1000000):Xo (.mk 4 [] 0 [k]):=fun H=>by
 (refine Qc.frozen (Q:=fun w K=>Frz K w (roT (tk (.mk 4 [] 0 [k])))) (by simp [Qk]) ?_ (fun _ _ h=>h))
 rw [tk4,nV,cellsN]
 have kk:=fun H=>hs H
 generalize tk k=xs at *
 have hk0: [k][0]? = some k:=rfl
 have hlen: [k].length=1:=rfl
 generalize [k]=ks at *
 obtain ⟨op,tx,nm,k2⟩:=k
 simp only [nV,cellsN,roT] at kk
 (refine Qc.go Tryz.func26 rfl ?_)
 (repeat' (first|with_reducible refine And.intro ?_ ?_|(with_reducible intro hc;(try simp only [zz] at hc);try exact ct)|((conv=>whnf);first|(with_reducible first|refine And.intro ?_ ?_|intro hx|apply Val.via|apply Qi.via)|exact Is.mk rfl rfl|(first|(refine Qs (Qr.grow0 rfl sty_T (d:= .slice 9) Tryz.underlying69 (by intro k h;cases h) (.inl rfl) (m:=1) (l:= [Qe [59]]) (by intro y;first|exact Qt _ _|rfl) (by first|exact Je _|rfl) (by omega) (by omega) ?_))|(refine Qs (Qr.grow rfl sty_T (d:= .slice 9) Tryz.underlying69 (by intro k h;cases h) rfl (m:=1) (l:= [Qe [59]]) (by first|exact Qt _ _|rfl) (by first|exact Je _|rfl) rfl (by first|(simp;done)|(simp;omega)) (by omega) (by omega) ?_))|(refine Qs (Qr.grow0 rfl sty_T (d:= .slice 9) Tryz.underlying69 (by intro k h;cases h) (.inl rfl) (m:=xs.length) (l:=xs.map Qe) (by intro y;first|exact Qt _ _|rfl) (by first|exact Je _|rfl) (by omega) (by omega) ?_))|(refine Qs (Qr.grow rfl sty_T (d:= .slice 9) Tryz.underlying69 (by intro k h;cases h) rfl (m:=xs.length) (l:=xs.map Qe) (by first|exact Qt _ _|rfl) (by first|exact Je _|rfl) rfl (by first|(simp;done)|(simp;omega)) (by omega) (by omega) ?_)))|refine sp ?_|refine vx (by (first|exact Qv rfl rfl|exact Q6 hk0 rfl|exact Qa rfl rfl rfl|rfl)) ?_|refine dY ?_|(first|(refine Q7.mk (Qc.inl Tryz.func49 rfl ?_))|refine cl (kk _) ?_)|refine sq ?_)))
 (all_goals try exact om)
 (all_goals exact Qf.mk (Yk rfl (by simp) (by simp;(try omega))))
set_option maxHeartbeats 16000000
theorem Qr.ins {P:Program} {o:Oper} {ts:List VV} {H H':Heap} {K:VV→Heap→Prop} {t:TypeId} {m x y:Operand} (ho:o.op= .insert t m x y) (h:Er P t (Ql ts m) (Ql ts x) (Ql ts y) H=some H') (k:K (.tp []) H'):Qr P o ts H K:=⟨⟨fun B M Z ρ a w rr KK QE h1 h2 h3=>by
 have hnd: ∀ c,o.op≠ .defer c:=fun c e=>by simp [ho] at e
 have hev:=fun x=>Xi (w:=w) (Z:=Z) (ρ:=ρ) (a:=a) h2 x
 obtain ⟨w2,g1,g2,g3⟩:=Du h1 (hev m) (hev x) (hev y) h
 have od:Xg P o a B M H.next Z ρ w (.tp []) H':=⟨undef,w2,Z,ρ,.inr ⟨by simp [execOp,ho,g1],rfl⟩,g2,g3,Qm.undef⟩
 obtain ⟨v',w',Z',ρ',hr,e1,r1,v1⟩:=od
 refine ⟨fun f _=>C6 _ f,?_⟩
 rw [Oper.semAt_eq _ _ _ hnd]
 have hk:=h3 v' _ _ Z' ρ' w' k e1 r1 v1
 rcases hr with hr|⟨hr,rfl⟩
 ·rw [hr];exact hk
 ·rw [hr];exact hk⟩⟩
theorem sg52 (k b:Nd) (hs:Xo k) (hb:Xo b) (hl:(tk k).length≤1000000) (hl1:(tk b).length≤1000000):Xo (.mk 5 [] 0 [k,b]):=fun H=>by
 (refine Qc.frozen (Q:=fun w K=>Frz K w (roT (tk (.mk 5 [] 0 [k,b])))) (by simp [Qk]) ?_ (fun _ _ h=>h))
 rw [tk52,nV,cellsN]
 have kk:=fun H=>hs H
 have kb:=fun H=>hb H
 generalize tk k=xs at *
 generalize tk b=ys at *
 have hk0: [k,b][0]? = some k:=rfl
 have hk1: [k,b][1]? = some b:=rfl
 have hlen: [k,b].length=2:=rfl
 generalize [k,b]=ks at *
 obtain ⟨op,tx,nm,k2⟩:=k
 obtain ⟨op1,tx1,nm1,b2⟩:=b
 simp only [nV,cellsN,roT] at kk kb
 (refine Qc.go Tryz.func26 rfl ?_)
 (repeat' (first|with_reducible refine And.intro ?_ ?_|(with_reducible intro hc;(try simp only [zz] at hc);try exact ct)|((conv=>whnf);first|(with_reducible first|refine And.intro ?_ ?_|intro hx|apply Val.via|apply Qi.via)|exact Is.mk rfl rfl|(first|(refine Qs (Qr.ins rfl rfl ?_))|(refine Qs (Qr.grow0 rfl sty_T (d:= .slice 9) Tryz.underlying69 (by intro k h;cases h) (.inl rfl) (m:=1) (l:= [Qe [105,102]]) (by intro y;first|exact Qt _ _|rfl) (by first|exact Je _|rfl) (by omega) (by omega) ?_))|(refine Qs (Qr.grow rfl sty_T (d:= .slice 9) Tryz.underlying69 (by intro k h;cases h) rfl (m:=1) (l:= [Qe [105,102]]) (by first|exact Qt _ _|rfl) (by first|exact Je _|rfl) rfl (by first|(simp;done)|(simp;omega)) (by omega) (by omega) ?_))|(refine Qs (Qr.grow0 rfl sty_T (d:= .slice 9) Tryz.underlying69 (by intro k h;cases h) (.inl rfl) (m:=xs.length) (l:=xs.map Qe) (by intro y;first|exact Qt _ _|rfl) (by first|exact Je _|rfl) (by omega) (by omega) ?_))|(refine Qs (Qr.grow rfl sty_T (d:= .slice 9) Tryz.underlying69 (by intro k h;cases h) rfl (m:=xs.length) (l:=xs.map Qe) (by first|exact Qt _ _|rfl) (by first|exact Je _|rfl) rfl (by first|(simp;done)|(simp;omega)) (by omega) (by omega) ?_))|(refine Qs (Qr.grow0 rfl sty_T (d:= .slice 9) Tryz.underlying69 (by intro k h;cases h) (.inl rfl) (m:=ys.length) (l:=ys.map Qe) (by intro y;first|exact Qt _ _|rfl) (by first|exact Je _|rfl) (by omega) (by omega) ?_))|(refine Qs (Qr.grow rfl sty_T (d:= .slice 9) Tryz.underlying69 (by intro k h;cases h) rfl (m:=ys.length) (l:=ys.map Qe) (by first|exact Qt _ _|rfl) (by first|exact Je _|rfl) rfl (by first|(simp;done)|(simp;omega)) (by omega) (by omega) ?_)))|refine sp ?_|refine vx (by (first|exact Qv rfl rfl|exact Q6 hk0 rfl|exact Q6 hk1 rfl|exact Qa rfl rfl rfl|rfl)) ?_|refine dY ?_|(first|(refine Q7.mk (Qc.inl Tryz.func49 rfl ?_))|refine cl (kk _) ?_|refine cl (kb _) ?_)|refine sq ?_)))
 (all_goals try exact om)
 (all_goals exact Qf.mk (Yk rfl (by simp) (by simp;(try omega))))
theorem sg53 (k b c:Nd) (hs:Xo k) (hb:Xo b) (hc0:Xo c) (hl:(tk k).length≤1000000) (hl1:(tk b).length≤1000000) (hl2:(tk c).length≤1000000):Xo (.mk 5 [] 0 [k,b,c]):=fun H=>by
 (refine Qc.frozen (Q:=fun w K=>Frz K w (roT (tk (.mk 5 [] 0 [k,b,c])))) (by simp [Qk]) ?_ (fun _ _ h=>h))
 rw [tk53,nV,cellsN]
 have kk:=fun H=>hs H
 have kb:=fun H=>hb H
 have kc:=fun H=>hc0 H
 generalize tk k=xs at *
 generalize tk b=ys at *
 generalize tk c=zs at *
 have hk0: [k,b,c][0]? = some k:=rfl
 have hk1: [k,b,c][1]? = some b:=rfl
 have hk2: [k,b,c][2]? = some c:=rfl
 have hlen: [k,b,c].length=3:=rfl
 generalize [k,b,c]=ks at *
 obtain ⟨op,tx,nm,k2⟩:=k
 obtain ⟨op1,tx1,nm1,b2⟩:=b
 obtain ⟨op2,tx2,nm2,c2⟩:=c
 simp only [nV,cellsN,roT] at kk kb kc
 (refine Qc.go Tryz.func26 rfl ?_)
 (repeat' (first|with_reducible refine And.intro ?_ ?_|(with_reducible intro hc;(try simp only [zz] at hc);try exact ct)|((conv=>whnf);first|(with_reducible first|refine And.intro ?_ ?_|intro hx|apply Val.via|apply Qi.via)|exact Is.mk rfl rfl|(first|(refine Qs (Qr.ins rfl rfl ?_))|(refine Qs (Qr.grow0 rfl sty_T (d:= .slice 9) Tryz.underlying69 (by intro k h;cases h) (.inl rfl) (m:=1) (l:= [Qe [105,102]]) (by intro y;first|exact Qt _ _|rfl) (by first|exact Je _|rfl) (by omega) (by omega) ?_))|(refine Qs (Qr.grow rfl sty_T (d:= .slice 9) Tryz.underlying69 (by intro k h;cases h) rfl (m:=1) (l:= [Qe [105,102]]) (by first|exact Qt _ _|rfl) (by first|exact Je _|rfl) rfl (by first|(simp;done)|(simp;omega)) (by omega) (by omega) ?_))|(refine Qs (Qr.grow0 rfl sty_T (d:= .slice 9) Tryz.underlying69 (by intro k h;cases h) (.inl rfl) (m:=1) (l:= [Qe [101,108,115,101]]) (by intro y;first|exact Qt _ _|rfl) (by first|exact Je _|rfl) (by omega) (by omega) ?_))|(refine Qs (Qr.grow rfl sty_T (d:= .slice 9) Tryz.underlying69 (by intro k h;cases h) rfl (m:=1) (l:= [Qe [101,108,115,101]]) (by first|exact Qt _ _|rfl) (by first|exact Je _|rfl) rfl (by first|(simp;done)|(simp;omega)) (by omega) (by omega) ?_))|(refine Qs (Qr.grow0 rfl sty_T (d:= .slice 9) Tryz.underlying69 (by intro k h;cases h) (.inl rfl) (m:=xs.length) (l:=xs.map Qe) (by intro y;first|exact Qt _ _|rfl) (by first|exact Je _|rfl) (by omega) (by omega) ?_))|(refine Qs (Qr.grow rfl sty_T (d:= .slice 9) Tryz.underlying69 (by intro k h;cases h) rfl (m:=xs.length) (l:=xs.map Qe) (by first|exact Qt _ _|rfl) (by first|exact Je _|rfl) rfl (by first|(simp;done)|(simp;omega)) (by omega) (by omega) ?_))|(refine Qs (Qr.grow0 rfl sty_T (d:= .slice 9) Tryz.underlying69 (by intro k h;cases h) (.inl rfl) (m:=ys.length) (l:=ys.map Qe) (by intro y;first|exact Qt _ _|rfl) (by first|exact Je _|rfl) (by omega) (by omega) ?_))|(refine Qs (Qr.grow rfl sty_T (d:= .slice 9) Tryz.underlying69 (by intro k h;cases h) rfl (m:=ys.length) (l:=ys.map Qe) (by first|exact Qt _ _|rfl) (by first|exact Je _|rfl) rfl (by first|(simp;done)|(simp;omega)) (by omega) (by omega) ?_))|(refine Qs (Qr.grow0 rfl sty_T (d:= .slice 9) Tryz.underlying69 (by intro k h;cases h) (.inl rfl) (m:=zs.length) (l:=zs.map Qe) (by intro y;first|exact Qt _ _|rfl) (by first|exact Je _|rfl) (by omega) (by omega) ?_))|(refine Qs (Qr.grow rfl sty_T (d:= .slice 9) Tryz.underlying69 (by intro k h;cases h) rfl (m:=zs.length) (l:=zs.map Qe) (by first|exact Qt _ _|rfl) (by first|exact Je _|rfl) rfl (by first|(simp;done)|(simp;omega)) (by omega) (by omega) ?_)))|refine sp ?_|refine vx (by (first|exact Qv rfl rfl|exact Q6 hk0 rfl|exact Q6 hk1 rfl|exact Q6 hk2 rfl|exact Qa rfl rfl rfl|rfl)) ?_|refine dY ?_|(first|(refine Q7.mk (Qc.inl Tryz.func49 rfl ?_))|refine cl (kk _) ?_|refine cl (kb _) ?_|refine cl (kc _) ?_)|refine sq ?_)))
 (all_goals try exact om)
 (all_goals exact Qf.mk (Yk rfl (by simp) (by simp;(try omega))))
theorem sg6 (k b:Nd) (hs:Xo k) (hb:Xo b) (hl:(tk k).length≤1000000) (hl1:(tk b).length≤1000000):Xo (.mk 6 [] 0 [k,b]):=fun H=>by
 (refine Qc.frozen (Q:=fun w K=>Frz K w (roT (tk (.mk 6 [] 0 [k,b])))) (by simp [Qk]) ?_ (fun _ _ h=>h))
 rw [tk6,nV,cellsN]
 have kk:=fun H=>hs H
 have kb:=fun H=>hb H
 generalize tk k=xs at *
 generalize tk b=ys at *
 have hk0: [k,b][0]? = some k:=rfl
 have hk1: [k,b][1]? = some b:=rfl
 have hlen: [k,b].length=2:=rfl
 generalize [k,b]=ks at *
 obtain ⟨op,tx,nm,k2⟩:=k
 obtain ⟨op1,tx1,nm1,b2⟩:=b
 simp only [nV,cellsN,roT] at kk kb
 (refine Qc.go Tryz.func26 rfl ?_)
 (repeat' (first|with_reducible refine And.intro ?_ ?_|(with_reducible intro hc;(try simp only [zz] at hc);try exact ct)|((conv=>whnf);first|(with_reducible first|refine And.intro ?_ ?_|intro hx|apply Val.via|apply Qi.via)|exact Is.mk rfl rfl|(first|(refine Qs (Qr.ins rfl rfl ?_))|(refine Qs (Qr.grow0 rfl sty_T (d:= .slice 9) Tryz.underlying69 (by intro k h;cases h) (.inl rfl) (m:=1) (l:= [Qe [119,104,105,108,101]]) (by intro y;first|exact Qt _ _|rfl) (by first|exact Je _|rfl) (by omega) (by omega) ?_))|(refine Qs (Qr.grow rfl sty_T (d:= .slice 9) Tryz.underlying69 (by intro k h;cases h) rfl (m:=1) (l:= [Qe [119,104,105,108,101]]) (by first|exact Qt _ _|rfl) (by first|exact Je _|rfl) rfl (by first|(simp;done)|(simp;omega)) (by omega) (by omega) ?_))|(refine Qs (Qr.grow0 rfl sty_T (d:= .slice 9) Tryz.underlying69 (by intro k h;cases h) (.inl rfl) (m:=xs.length) (l:=xs.map Qe) (by intro y;first|exact Qt _ _|rfl) (by first|exact Je _|rfl) (by omega) (by omega) ?_))|(refine Qs (Qr.grow rfl sty_T (d:= .slice 9) Tryz.underlying69 (by intro k h;cases h) rfl (m:=xs.length) (l:=xs.map Qe) (by first|exact Qt _ _|rfl) (by first|exact Je _|rfl) rfl (by first|(simp;done)|(simp;omega)) (by omega) (by omega) ?_))|(refine Qs (Qr.grow0 rfl sty_T (d:= .slice 9) Tryz.underlying69 (by intro k h;cases h) (.inl rfl) (m:=ys.length) (l:=ys.map Qe) (by intro y;first|exact Qt _ _|rfl) (by first|exact Je _|rfl) (by omega) (by omega) ?_))|(refine Qs (Qr.grow rfl sty_T (d:= .slice 9) Tryz.underlying69 (by intro k h;cases h) rfl (m:=ys.length) (l:=ys.map Qe) (by first|exact Qt _ _|rfl) (by first|exact Je _|rfl) rfl (by first|(simp;done)|(simp;omega)) (by omega) (by omega) ?_)))|refine sp ?_|refine vx (by (first|exact Qv rfl rfl|exact Q6 hk0 rfl|exact Q6 hk1 rfl|exact Qa rfl rfl rfl|rfl)) ?_|refine dY ?_|(first|(refine Q7.mk (Qc.inl Tryz.func49 rfl ?_))|refine cl (kk _) ?_|refine cl (kb _) ?_)|refine sq ?_)))
 (all_goals try exact om)
 (all_goals exact Qf.mk (Yk rfl (by simp) (by simp;(try omega))))
theorem sg12 (x:List UInt8) (ks:List Nd) (hs: ∀ k∈ks,Xo k) (hM:Ws ks≤1000000) (hl:(rowT (ks.map tk)).length≤1000000):Xo (.mk 12 x 0 ks):=fun H=>by
 (refine Qc.frozen (Q:=fun w K=>Frz K w (roT (tk (.mk 12 x 0 ks)))) (by simp [Qk]) ?_ (fun _ _ h=>h))
 rw [tk12,nV,cellsN]
 have kk:=fun H=>row_call ks hM hs H
 generalize rowT (ks.map tk)=xs at *
 have hk0:True:=trivial
 simp only [roT] at kk
 (refine Qc.go Tryz.func26 rfl ?_)
 (repeat' (first|with_reducible refine And.intro ?_ ?_|(with_reducible intro hc;(try simp only [zz] at hc);try exact ct)|((conv=>whnf);first|(with_reducible first|refine And.intro ?_ ?_|intro hx|apply Val.via|apply Qi.via)|exact Is.mk rfl rfl|(first|(refine Qs (Qr.grow0 rfl sty_T (d:= .slice 9) Tryz.underlying69 (by intro k h;cases h) (.inl rfl) (m:=2) (l:= [Qe x,Qe [40]]) (by intro y;first|exact Qt _ _|rfl) (by first|exact Je _|rfl) (by omega) (by omega) ?_))|(refine Qs (Qr.grow rfl sty_T (d:= .slice 9) Tryz.underlying69 (by intro k h;cases h) rfl (m:=2) (l:= [Qe x,Qe [40]]) (by first|exact Qt _ _|rfl) (by first|exact Je _|rfl) rfl (by first|(simp;done)|(simp;omega)) (by omega) (by omega) ?_))|(refine Qs (Qr.grow0 rfl sty_T (d:= .slice 9) Tryz.underlying69 (by intro k h;cases h) (.inl rfl) (m:=1) (l:= [Qe [41]]) (by intro y;first|exact Qt _ _|rfl) (by first|exact Je _|rfl) (by omega) (by omega) ?_))|(refine Qs (Qr.grow rfl sty_T (d:= .slice 9) Tryz.underlying69 (by intro k h;cases h) rfl (m:=1) (l:= [Qe [41]]) (by first|exact Qt _ _|rfl) (by first|exact Je _|rfl) rfl (by first|(simp;done)|(simp;omega)) (by omega) (by omega) ?_))|(refine Qs (Qr.grow0 rfl sty_T (d:= .slice 9) Tryz.underlying69 (by intro k h;cases h) (.inl rfl) (m:=xs.length) (l:=xs.map Qe) (by intro y;first|exact Qt _ _|rfl) (by first|exact Je _|rfl) (by omega) (by omega) ?_))|(refine Qs (Qr.grow rfl sty_T (d:= .slice 9) Tryz.underlying69 (by intro k h;cases h) rfl (m:=xs.length) (l:=xs.map Qe) (by first|exact Qt _ _|rfl) (by first|exact Je _|rfl) rfl (by first|(simp;done)|(simp;omega)) (by omega) (by omega) ?_)))|refine sp ?_|refine vx (by (first|exact Qv rfl rfl|exact Q6 hk0 rfl|exact Qa rfl rfl rfl|rfl)) ?_|refine dY ?_|(first|(refine Q7.mk (Qc.inl Tryz.func49 rfl ?_))|refine cl (kk _) ?_)|refine sq ?_)))
 (all_goals try exact om)
 (all_goals exact Qf.mk (Yk rfl (by simp) (by simp;(try omega))))
theorem N5 {a b z k:Nat} (hz:z=k) (h:a=b):a*z=b*k:=by subst hz h;rfl
theorem rowCut {ks vs:List Nd} {b:Nd} (e:ks=vs++ [b]):(rowsN ks).take (vs.length*4)=rowsN vs:=by
 subst e
 rw [Jy,List.take_left' (Q0 vs)]
theorem rowArg {ks vs:List Nd} {b:Nd} (e:ks=vs++ [b]) {n:Nat} {w:List VV} (hn:n=vs.length) (hw:w=((rowsN ks).drop (0*4)).take (n*4)):VV.ro n w= .ro vs.length (rowsN vs):=by
 subst hn hw
 rw [Nat.zero_mul,List.drop_zero,rowCut e]
theorem sg1 (x:List UInt8) (vs:List Nd) (b:Nd) (hs: ∀ k∈vs,Xo k) (hM:Ws vs≤1000000) (hl:(rowT (vs.map tk)).length≤1000000) (hb:Xo b) (hlb:(tk b).length≤1000000) (hvl:vs.length≤100000):Xo (.mk 1 x 0 (vs++ [b])):=fun H=>by
 (refine Qc.frozen (Q:=fun w K=>Frz K w (roT (tk (.mk 1 x 0 (vs++ [b]))))) (by simp [Qk]) ?_ (fun _ _ h=>h))
 rw [tk1,nV,cellsN]
 have kk:=fun H=>row_call vs hM hs H
 have kb:=fun H=>hb H
 generalize rowT (vs.map tk)=xs at *
 generalize tk b=ys at *
 have hk0:(vs++ [b])[vs.length]? = some b:=by simp
 have hlen:(vs++ [b]).length=vs.length+1:=by simp
 obtain ⟨ks,hks⟩: ∃ ks,vs++ [b]=ks:=⟨_,rfl⟩
 rw [hks] at hk0 hlen ⊢
 obtain ⟨op1,tx1,nm1,b2⟩:=b
 simp only [nV,cellsN,roT] at kk kb
 (refine Qc.go Tryz.func26 rfl ?_)
 (repeat' (first|with_reducible refine And.intro ?_ ?_|(with_reducible intro hc;(try simp only [zz] at hc);try exact ct)|((conv=>whnf);first|(with_reducible first|refine And.intro ?_ ?_|intro hx|apply Val.via|apply Qi.via)|exact Is.mk rfl rfl|(first|(refine Qs (Qr.grow0 rfl sty_T (d:= .slice 9) Tryz.underlying69 (by intro k h;cases h) (.inl rfl) (m:=3) (l:= [Qe [111,110],Qe x,Qe [40]]) (by intro y;first|exact Qt _ _|rfl) (by first|exact Je _|rfl) (by omega) (by omega) ?_))|(refine Qs (Qr.grow rfl sty_T (d:= .slice 9) Tryz.underlying69 (by intro k h;cases h) rfl (m:=3) (l:= [Qe [111,110],Qe x,Qe [40]]) (by first|exact Qt _ _|rfl) (by first|exact Je _|rfl) rfl (by first|(simp;done)|(simp;omega)) (by omega) (by omega) ?_))|(refine Qs (Qr.grow0 rfl sty_T (d:= .slice 9) Tryz.underlying69 (by intro k h;cases h) (.inl rfl) (m:=1) (l:= [Qe [41]]) (by intro y;first|exact Qt _ _|rfl) (by first|exact Je _|rfl) (by omega) (by omega) ?_))|(refine Qs (Qr.grow rfl sty_T (d:= .slice 9) Tryz.underlying69 (by intro k h;cases h) rfl (m:=1) (l:= [Qe [41]]) (by first|exact Qt _ _|rfl) (by first|exact Je _|rfl) rfl (by first|(simp;done)|(simp;omega)) (by omega) (by omega) ?_))|(refine Qs (Qr.grow0 rfl sty_T (d:= .slice 9) Tryz.underlying69 (by intro k h;cases h) (.inl rfl) (m:=xs.length) (l:=xs.map Qe) (by intro y;first|exact Qt _ _|rfl) (by first|exact Je _|rfl) (by omega) (by omega) ?_))|(refine Qs (Qr.grow rfl sty_T (d:= .slice 9) Tryz.underlying69 (by intro k h;cases h) rfl (m:=xs.length) (l:=xs.map Qe) (by first|exact Qt _ _|rfl) (by first|exact Je _|rfl) rfl (by first|(simp;done)|(simp;omega)) (by omega) (by omega) ?_))|(refine Qs (Qr.grow0 rfl sty_T (d:= .slice 9) Tryz.underlying69 (by intro k h;cases h) (.inl rfl) (m:=ys.length) (l:=ys.map Qe) (by intro y;first|exact Qt _ _|rfl) (by first|exact Je _|rfl) (by omega) (by omega) ?_))|(refine Qs (Qr.grow rfl sty_T (d:= .slice 9) Tryz.underlying69 (by intro k h;cases h) rfl (m:=ys.length) (l:=ys.map Qe) (by first|exact Qt _ _|rfl) (by first|exact Je _|rfl) rfl (by first|(simp;done)|(simp;omega)) (by omega) (by omega) ?_)))|refine sp ?_|refine vx (by (first|exact Qv rfl rfl|exact Q6 hk0 (N5 rfl (by omega))|exact Qa rfl rfl rfl|rfl)) ?_|refine dY ?_|(first|(refine Q7.mk (Qc.inl Tryz.func49 rfl ?_))|refine cl (kb _) ?_|(refine Q7.arg1 (rowArg hks.symm (by omega) rfl) ?_;refine cl (kk _) ?_))|refine sq ?_)))
 (all_goals try exact om)
 (all_goals exact Qf.mk (Yk rfl (by simp) (by simp;(try omega))))
end Go.Proofs.YtnmjdjldbloefaaGreatDoor
