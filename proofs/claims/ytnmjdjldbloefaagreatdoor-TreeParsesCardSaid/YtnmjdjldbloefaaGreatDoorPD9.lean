import Derived.Test.YtnmjdjldbloefaaGreatDoorPD0
import Derived.Test.YtnmjdjldbloefaaGreatDoorPE5
import Derived.Test.YtnmjdjldbloefaaGreatDoorPD1
import Derived.Test.YtnmjdjldbloefaaGreatDoorPG2
/- The document's lexer: a text, a mark, any sign. -/
namespace Go.Proofs.YtnmjdjldbloefaaGreatDoor
open Go Go.RowKit
set_option linter.unusedSimpArgs false
set_option linter.unusedVariables false
set_option maxRecDepth 100000
set_option maxHeartbeats 8000000
theorem lexT_end {t:List UInt8} {i:Nat} (h:i=t.length) (x:List UInt8):lexT (t.drop i) x i= .inl (2,i):=by
 subst h
 rw [List.drop_length,lexT]
theorem lexT_quo {t:List UInt8} {i:Nat} {c:UInt8} (hb:t[i]? = some c) (hc:c.toNat=34) {x:List UInt8} (hx:x.length≤4096):lexT (t.drop i) x i= .inr (x,i+1):=by
 rw [X1 hb,lexT.eq_def]
 dsimp only
 rw [if_pos hc,if_neg (by omega)]
theorem lexT_nl {t:List UInt8} {i:Nat} {c:UInt8} (hb:t[i]? = some c) (hc:c.toNat=10) (x:List UInt8):lexT (t.drop i) x i= .inl (2,i):=by
 rw [X1 hb,lexT.eq_def]
 dsimp only
 rw [if_neg (by omega),if_pos hc]
theorem lexT_bsE {t:List UInt8} {i:Nat} {c:UInt8} (hb:t[i]? = some c) (hc:c.toNat=92) (h:i+1=t.length) (x:List UInt8):lexT (t.drop i) x i= .inl (2,i+1):=by
 rw [X1 hb,h,List.drop_length,lexT.eq_def]
 dsimp only
 rw [if_neg (by omega),if_neg (by omega),if_pos hc]
 rw [← h]
theorem lexT_bs {t:List UInt8} {i:Nat} {c d:UInt8} (hb:t[i]? = some c) (hc:c.toNat=92) (hd:t[i+1]? = some d) (x:List UInt8):lexT (t.drop i) x i=if d.toNat=110 then lexT (t.drop (i+2)) (x++ [10]) (i+2) else if d.toNat=34 then lexT (t.drop (i+2)) (x++ [34]) (i+2) else if d.toNat=92 then lexT (t.drop (i+2)) (x++ [92]) (i+2) else .inl (2,i+1):=by
 rw [X1 hb,X1 hd,lexT.eq_def]
 dsimp only
 rw [if_neg (by omega),if_neg (by omega),if_pos hc]
theorem lexT_o {t:List UInt8} {i:Nat} {c:UInt8} (hb:t[i]? = some c) (h1:c.toNat≠34) (h2:c.toNat≠10) (h3:c.toNat≠92) (x:List UInt8):lexT (t.drop i) x i=lexT (t.drop (i+1)) (x++ [c]) (i+1):=by
 rw [X1 hb,lexT.eq_def]
 dsimp only
 rw [if_neg h1,if_neg h2,if_neg h3]
def txS (L:Sum (Nat×Nat) (List UInt8×Nat)):SgR:=match L with
 | .inl (e,n)=>⟨noSg,n,e⟩
 | .inr (l,n)=>⟨⟨4,l,0⟩,n,0⟩
theorem dtext_call (c:UInt8) (r:List UInt8) (hc0:Wk c=false) (hd0:Jx c=false) (h34:c.toNat=34) (hl:(c::r).length≤4096) (H:Heap):Qc Tryz.prog 43 [Qe (c::r)] H (fun v K=>v=sgD3 (Cq (c::r))∧K=H):=by
 refine Qc.pure (by simp [Qd]) (Wo _) ?_
 have hS:Cq (c::r)=txS (lexT ((c::r).drop 1) [] 1):=by unfold Cq txS;rfl
 rw [hS]
 generalize hR:lexT ((c::r).drop 1) [] 1=R
 have hb0:(c::r)[0]? = some c:=rfl
 have hl0:1≤(c::r).length:=by simp
 have k0:=fun H=>Ba c H
 have k1:=fun H=>Z3 c H
 rw [hc0] at k0
 rw [hd0] at k1
 generalize c::r=t at *
 obtain ⟨bAt,hbA⟩:=Fm t
 refine Qc.go Tryz.func43 rfl ?_
 (repeat' (first|with_reducible refine And.intro ?_ ?_|(with_reducible intro hc;(try simp only [zz] at hc);try exact ct)|((conv=>whnf);first|(with_reducible first|refine And.intro ?_ ?_|intro hx|apply Val.via|apply Qi.via)|exact Is.mk rfl rfl|refine sp ?_|refine vx (by (first|exact hb|exact hb0|exact hd|exact hd1|exact Q4 rfl rfl|exact Qa rfl rfl rfl|rfl)) ?_|refine dY ?_|(first|refine cl (k0 _) ?_|refine cl (k1 _) ?_)|refine sq ?_)))
 (all_goals (first|omega|contradiction|(show (_:Int)≤(t.length:Int);omega)|(exfalso;have hmx:IntKind.i64.max=9223372036854775807:=rfl;rw [hmx] at hx;(try rw [B5 hb] at hx);simp [ByteArray.size_append,ByteArray.size] at hx;omega)|skip))
 (refine Ji.mk (GWP.loopB [] (fun (b:Nat×List UInt8)=>1≤b.1∧b.1≤t.length∧b.2.length≤b.1∧lexT (t.drop b.1) b.2 b.1=R) (fun b=> [(9,Qe b.2),(10,iV b.1)]) (fun _=> []) 1 (fun b=>t.length - b.1) (1,[]) ⟨Nat.le_refl _,hl0,by simp,hR⟩ ?_);(conv=>whnf);refine And.intro ?_ ?_)
 ·focus (refine ka [] ?_ ?_;all_goals (repeat' (first|exact rz|refine And.intro ?_ ?_|refine Exists.intro _ (And.intro rfl ?_)|refine ro ?_|refine Qu.cons ?_ ?_|exact Qn.of (Qb _)|exact rv)))
 rintro ⟨i,out⟩ ⟨g1,g2,g3,g4⟩
 simp only at g1 g2 g3 g4 ⊢
 by_cases hil:i < t.length
 ·have hb:=hbA i hil
  have hbl:(bAt i).toNat < 256:=(bAt i).toNat_lt
  generalize bAt i=b at hb hbl
  by_cases hq:b.toNat=34
  ·rw [lexT_quo hb hq (by omega)] at g4
   subst g4
   (repeat' (first|with_reducible refine And.intro ?_ ?_|(with_reducible intro hc;(try simp only [zz] at hc);try exact ct)|((conv=>whnf);first|(with_reducible first|refine And.intro ?_ ?_|intro hx|apply Val.via|apply Qi.via)|exact Is.mk rfl rfl|refine sp ?_|refine vx (by (first|exact hb|exact hb0|exact hd|exact hd1|exact Q4 rfl rfl|exact Qa rfl rfl rfl|rfl)) ?_|refine dY ?_|fail|refine sq ?_)))
   (all_goals (first|omega|contradiction|(show (_:Int)≤(t.length:Int);omega)|(exfalso;have hmx:IntKind.i64.max=9223372036854775807:=rfl;rw [hmx] at hx;(try rw [B5 hb] at hx);simp [ByteArray.size_append,ByteArray.size] at hx;omega)|skip))
   all_goals exact Qf.mk rfl
  by_cases hn:b.toNat=10
  ·rw [lexT_nl hb hn] at g4
   subst g4
   (repeat' (first|with_reducible refine And.intro ?_ ?_|(with_reducible intro hc;(try simp only [zz] at hc);try exact ct)|((conv=>whnf);first|(with_reducible first|refine And.intro ?_ ?_|intro hx|apply Val.via|apply Qi.via)|exact Is.mk rfl rfl|refine sp ?_|refine vx (by (first|exact hb|exact hb0|exact hd|exact hd1|exact Q4 rfl rfl|exact Qa rfl rfl rfl|rfl)) ?_|refine dY ?_|fail|refine sq ?_)))
   (all_goals (first|omega|contradiction|(show (_:Int)≤(t.length:Int);omega)|(exfalso;have hmx:IntKind.i64.max=9223372036854775807:=rfl;rw [hmx] at hx;(try rw [B5 hb] at hx);simp [ByteArray.size_append,ByteArray.size] at hx;omega)|skip))
   all_goals exact Qf.mk rfl
  by_cases hs:b.toNat=92
  ·by_cases he:i+1=t.length
   ·rw [lexT_bsE hb hs he] at g4
    subst g4
    (repeat' (first|with_reducible refine And.intro ?_ ?_|(with_reducible intro hc;(try simp only [zz] at hc);try exact ct)|((conv=>whnf);first|(with_reducible first|refine And.intro ?_ ?_|intro hx|apply Val.via|apply Qi.via)|exact Is.mk rfl rfl|refine sp ?_|refine vx (by (first|exact hb|exact hb0|exact hd|exact hd1|exact Q4 rfl rfl|exact Qa rfl rfl rfl|rfl)) ?_|refine dY ?_|fail|refine sq ?_)))
    (all_goals (first|omega|contradiction|(show (_:Int)≤(t.length:Int);omega)|(exfalso;have hmx:IntKind.i64.max=9223372036854775807:=rfl;rw [hmx] at hx;(try rw [B5 hb] at hx);simp [ByteArray.size_append,ByteArray.size] at hx;omega)|skip))
    all_goals exact Qf.mk rfl
   have hd:=hbA (i+1) (by omega)
   have hdl:(bAt (i+1)).toNat < 256:=(bAt (i+1)).toNat_lt
   generalize bAt (i+1)=d at hd hdl
   rw [lexT_bs hb hs hd] at g4
   by_cases h1:d.toNat=110
   ·rw [if_pos h1] at g4
    (repeat' (first|with_reducible refine And.intro ?_ ?_|(with_reducible intro hc;(try simp only [zz] at hc);try exact ct)|((conv=>whnf);first|(with_reducible first|refine And.intro ?_ ?_|intro hx|apply Val.via|apply Qi.via)|exact Is.mk rfl rfl|refine sp ?_|refine vx (by (first|exact hb|exact hb0|exact hd|exact hd1|exact Q4 rfl rfl|exact Qa rfl rfl rfl|rfl)) ?_|refine dY ?_|fail|refine sq ?_)))
    (all_goals (first|omega|contradiction|(show (_:Int)≤(t.length:Int);omega)|(exfalso;have hmx:IntKind.i64.max=9223372036854775807:=rfl;rw [hmx] at hx;(try rw [B5 hb] at hx);simp [ByteArray.size_append,ByteArray.size] at hx;omega)|skip))
    (focus (refine Qf.mk ⟨(i+2,out++ [10]),⟨by simp only;omega,by simp only;omega,by simp only [List.length_append,List.length_cons,List.length_nil];omega,g4⟩,?_,ka [] ?_ ?_⟩;(first|omega|(simp only;omega));all_goals (repeat' (first|exact rz|refine And.intro ?_ ?_|refine Exists.intro _ (And.intro rfl ?_)|refine ro ?_|refine Qu.cons ?_ ?_|(first|exact Qn.eq (catQ out [10]) (Qd _)|exact Qn.eq (Qz (by omega)) (Qb _))|exact rv))))
   rw [if_neg h1] at g4
   by_cases h2:d.toNat=34
   ·rw [if_pos h2] at g4
    (repeat' (first|with_reducible refine And.intro ?_ ?_|(with_reducible intro hc;(try simp only [zz] at hc);try exact ct)|((conv=>whnf);first|(with_reducible first|refine And.intro ?_ ?_|intro hx|apply Val.via|apply Qi.via)|exact Is.mk rfl rfl|refine sp ?_|refine vx (by (first|exact hb|exact hb0|exact hd|exact hd1|exact Q4 rfl rfl|exact Qa rfl rfl rfl|rfl)) ?_|refine dY ?_|fail|refine sq ?_)))
    (all_goals (first|omega|contradiction|(show (_:Int)≤(t.length:Int);omega)|(exfalso;have hmx:IntKind.i64.max=9223372036854775807:=rfl;rw [hmx] at hx;(try rw [B5 hb] at hx);simp [ByteArray.size_append,ByteArray.size] at hx;omega)|skip))
    (focus (refine Qf.mk ⟨(i+2,out++ [34]),⟨by simp only;omega,by simp only;omega,by simp only [List.length_append,List.length_cons,List.length_nil];omega,g4⟩,?_,ka [] ?_ ?_⟩;(first|omega|(simp only;omega));all_goals (repeat' (first|exact rz|refine And.intro ?_ ?_|refine Exists.intro _ (And.intro rfl ?_)|refine ro ?_|refine Qu.cons ?_ ?_|(first|exact Qn.eq (catQ out [34]) (Qd _)|exact Qn.eq (Qz (by omega)) (Qb _))|exact rv))))
   rw [if_neg h2] at g4
   by_cases h3:d.toNat=92
   ·rw [if_pos h3] at g4
    (repeat' (first|with_reducible refine And.intro ?_ ?_|(with_reducible intro hc;(try simp only [zz] at hc);try exact ct)|((conv=>whnf);first|(with_reducible first|refine And.intro ?_ ?_|intro hx|apply Val.via|apply Qi.via)|exact Is.mk rfl rfl|refine sp ?_|refine vx (by (first|exact hb|exact hb0|exact hd|exact hd1|exact Q4 rfl rfl|exact Qa rfl rfl rfl|rfl)) ?_|refine dY ?_|fail|refine sq ?_)))
    (all_goals (first|omega|contradiction|(show (_:Int)≤(t.length:Int);omega)|(exfalso;have hmx:IntKind.i64.max=9223372036854775807:=rfl;rw [hmx] at hx;(try rw [B5 hb] at hx);simp [ByteArray.size_append,ByteArray.size] at hx;omega)|skip))
    (focus (refine Qf.mk ⟨(i+2,out++ [92]),⟨by simp only;omega,by simp only;omega,by simp only [List.length_append,List.length_cons,List.length_nil];omega,g4⟩,?_,ka [] ?_ ?_⟩;(first|omega|(simp only;omega));all_goals (repeat' (first|exact rz|refine And.intro ?_ ?_|refine Exists.intro _ (And.intro rfl ?_)|refine ro ?_|refine Qu.cons ?_ ?_|(first|exact Qn.eq (catQ out [92]) (Qd _)|exact Qn.eq (Qz (by omega)) (Qb _))|exact rv))))
   rw [if_neg h3] at g4
   subst g4
   (repeat' (first|with_reducible refine And.intro ?_ ?_|(with_reducible intro hc;(try simp only [zz] at hc);try exact ct)|((conv=>whnf);first|(with_reducible first|refine And.intro ?_ ?_|intro hx|apply Val.via|apply Qi.via)|exact Is.mk rfl rfl|refine sp ?_|refine vx (by (first|exact hb|exact hb0|exact hd|exact hd1|exact Q4 rfl rfl|exact Qa rfl rfl rfl|rfl)) ?_|refine dY ?_|fail|refine sq ?_)))
   (all_goals (first|omega|contradiction|(show (_:Int)≤(t.length:Int);omega)|(exfalso;have hmx:IntKind.i64.max=9223372036854775807:=rfl;rw [hmx] at hx;(try rw [B5 hb] at hx);simp [ByteArray.size_append,ByteArray.size] at hx;omega)|skip))
   all_goals exact Qf.mk rfl
  rw [lexT_o hb hq hn hs] at g4
  (repeat' (first|with_reducible refine And.intro ?_ ?_|(with_reducible intro hc;(try simp only [zz] at hc);try exact ct)|((conv=>whnf);first|(with_reducible first|refine And.intro ?_ ?_|intro hx|apply Val.via|apply Qi.via)|exact Is.mk rfl rfl|refine sp ?_|refine vx (by (first|exact hb|exact hb0|exact hd|exact hd1|exact Q4 rfl rfl|exact Qa rfl rfl rfl|rfl)) ?_|refine dY ?_|fail|refine sq ?_)))
  (all_goals (first|omega|contradiction|(show (_:Int)≤(t.length:Int);omega)|(exfalso;have hmx:IntKind.i64.max=9223372036854775807:=rfl;rw [hmx] at hx;(try rw [B5 hb] at hx);simp [ByteArray.size_append,ByteArray.size] at hx;omega)|skip))
  (focus (refine Qf.mk ⟨(i+1,out++ [b]),⟨by simp only;omega,by simp only;omega,by simp only [List.length_append,List.length_cons,List.length_nil];omega,g4⟩,?_,ka [] ?_ ?_⟩;(first|omega|(simp only;omega));all_goals (repeat' (first|exact rz|refine And.intro ?_ ?_|refine Exists.intro _ (And.intro rfl ?_)|refine ro ?_|refine Qu.cons ?_ ?_|(first|exact Qn.eq (catQ1 hb) (Qd _)|exact Qn.eq (Qz (by omega)) (Qb _))|exact rv))))
 ·have hie:i=t.length:=by omega
  rw [lexT_end hie] at g4
  subst g4
  (repeat' (first|with_reducible refine And.intro ?_ ?_|(with_reducible intro hc;(try simp only [zz] at hc);try exact ct)|((conv=>whnf);first|(with_reducible first|refine And.intro ?_ ?_|intro hx|apply Val.via|apply Qi.via)|exact Is.mk rfl rfl|refine sp ?_|refine vx (by (first|exact hb|exact hb0|exact hd|exact hd1|exact Q4 rfl rfl|exact Qa rfl rfl rfl|rfl)) ?_|refine dY ?_|fail|refine sq ?_)))
  (all_goals (first|omega|contradiction|(show (_:Int)≤(t.length:Int);omega)|(exfalso;have hmx:IntKind.i64.max=9223372036854775807:=rfl;rw [hmx] at hx;(try rw [B5 hb] at hx);simp [ByteArray.size_append,ByteArray.size] at hx;omega)|skip))
  all_goals exact Qf.mk rfl
def mk2 (c:UInt8):Bool:=([61,33,60,62]:List UInt8).contains c
def mk1 (c:UInt8):Bool:=([60,62,61,43,45,42,47,37,40,41,123,125,44,59]:List UInt8).contains c
theorem markS_eq (c:UInt8) (r:List UInt8):K5 (c::r) marksL=if r[0]? = some 61∧mk2 c=true then ⟨⟨5,[c,61],0⟩,2,0⟩ else if mk1 c then ⟨⟨5,[c],0⟩,1,0⟩ else ⟨noSg,0,2⟩:=by
 have key: ∀ k:UInt8,k∈([61,33,60,62,43,45,42,47,37,40,41,123,125,44,59]:List UInt8)→K5 (k::r) marksL=if r[0]? = some 61∧mk2 k=true then ⟨⟨5,[k,61],0⟩,2,0⟩ else if mk1 k then ⟨⟨5,[k],0⟩,1,0⟩ else ⟨noSg,0,2⟩:=by
  intro k hk
  simp only [List.mem_cons,List.not_mem_nil,or_false] at hk
  cases r with
  | nil=>rcases hk with rfl|rfl|rfl|rfl|rfl|rfl|rfl|rfl|rfl|rfl|rfl|rfl|rfl|rfl|rfl <;> rfl
  | cons d r =>
   by_cases hd:d=61
   ·subst hd
    rcases hk with rfl|rfl|rfl|rfl|rfl|rfl|rfl|rfl|rfl|rfl|rfl|rfl|rfl|rfl|rfl <;> rfl
   ·have hd':(61==d)=false:=by simpa using fun h=>hd h.symm
    rcases hk with rfl|rfl|rfl|rfl|rfl|rfl|rfl|rfl|rfl|rfl|rfl|rfl|rfl|rfl|rfl <;> simp [K5,marksL,List.isPrefixOf,hd,hd',mk2,mk1]
 by_cases hk:c∈([61,33,60,62,43,45,42,47,37,40,41,123,125,44,59]:List UInt8)
 ·exact key c hk
 ·simp only [List.mem_cons,List.not_mem_nil,or_false,not_or] at hk
  obtain ⟨h1,h2,h3,h4,h5,h6,h7,h8,h9,ha,hb,hc,hd,he,hf⟩:=hk
  have e1:mk2 c=false:=by simp [mk2,h1,h2,h3,h4]
  have e2:mk1 c=false:=by simp [mk1,h1,h2,h3,h4,h5,h6,h7,h8,h9,ha,hb,hc,hd,he,hf]
  rw [e1,e2]
  simp only [Bool.false_eq_true,and_false,if_false]
  simp [K5,marksL,List.isPrefixOf,Ne.symm h1,Ne.symm h2,Ne.symm h3,Ne.symm h4,Ne.symm h5,Ne.symm h6,Ne.symm h7,Ne.symm h8,Ne.symm h9,Ne.symm ha,Ne.symm hb,Ne.symm hc,Ne.symm hd,Ne.symm he,Ne.symm hf]
theorem ext_takeK (l:List UInt8) (n:Nat):VV.sc (.string ((⟨l.toArray⟩:ByteArray).extract 0 n))=Qe (l.take n):=by
 rw [ext_str]
 rfl
theorem dmark_call (c:UInt8) (r:List UInt8) (hc0:Wk c=false) (hd0:Jx c=false) (h34:c.toNat≠34) (hl:(c::r).length≤4096) (H:Heap):Qc Tryz.prog 43 [Qe (c::r)] H (fun v K=>v=sgD3 (K5 (c::r) marksL)∧K=H):=by
 refine Qc.pure (by simp [Qd]) (Wo _) ?_
 rw [markS_eq]
 generalize hR:sgD3 (if r[0]? = some 61∧mk2 c=true then ⟨⟨5,[c,61],0⟩,2,0⟩ else if mk1 c then ⟨⟨5,[c],0⟩,1,0⟩ else ⟨noSg,0,2⟩)=R
 have hb0:(c::r)[0]? = some c:=rfl
 have hcl:c.toNat < 256:=c.toNat_lt
 have hl0:1≤(c::r).length:=by simp
 have k0:=fun H=>Ba c H
 have k1:=fun H=>Z3 c H
 have k2: ∀ H,Qc Tryz.prog 42 [bV c,Qe [61,33,60,62]] H (fun x K=>x=Yg (mk2 c)∧K=H):=fun H=>Bb c [61,33,60,62] (by decide) H
 have k3: ∀ H,Qc Tryz.prog 42 [bV c,Qe [60,62,61,43,45,42,47,37,40,41,123,125,44,59]] H (fun x K=>x=Yg (mk1 c)∧K=H):=fun H=>Bb c [60,62,61,43,45,42,47,37,40,41,123,125,44,59] (by decide) H
 rw [hc0] at k0
 rw [hd0] at k1
 have t1:(c::r).take 1= [c]:=rfl
 have t2:r[0]? = some 61→(c::r).take 2= [c,61]:=fun h=>by
  cases r with
  | nil=>cases h
  | cons d r=>injection h with h;subst h;rfl
 have td: ∀ d,r[0]? = some d→(c::r)[1]? = some d:=fun d h=>h
 have ln:r[0]? = none→(c::r).length=1:=fun h=>by
  cases r with
  | nil=>rfl
  | cons d r=>cases h
 have ls: ∀ d,r[0]? = some d→2≤(c::r).length:=fun d h=>by
  cases r with
  | nil=>cases h
  | cons e r=>simp
 generalize c::r=t at *
 generalize r[0]? = o at *
 have e2:=ext_takeK t 2
 have e1:=ext_takeK t 1
 rw [t1] at e1
 generalize mk1 c=q1 at *
 generalize mk2 c=q2 at *
 cases o with
 | none =>
  have ln:=ln rfl
  rw [if_neg (by simp)] at hR
  cases q1 with
  | true =>
   rw [if_pos rfl] at hR
   subst hR
   refine Qc.go Tryz.func43 rfl ?_
   (repeat' (first|with_reducible refine And.intro ?_ ?_|(with_reducible intro hc;(try simp only [zz] at hc);try exact ct)|((conv=>whnf);first|(with_reducible first|refine And.intro ?_ ?_|intro hx|apply Val.via|apply Qi.via)|exact Is.mk rfl rfl|refine sp ?_|refine vx (by (first|exact hb0|exact hd|exact Q4 rfl rfl|exact Qa rfl rfl rfl|rfl)) ?_|refine dY ?_|(first|refine cl (k0 _) ?_|refine cl (k1 _) ?_|refine cl (k3 _) ?_)|refine sq ?_)))
   (all_goals (first|omega|contradiction|(show (_:Int)≤(t.length:Int);omega)|skip))
   ((all_goals refine Qf.mk ?_);all_goals (first|rfl|exact (congrArg (fun s=>VV.tp [.ag [iV 5,iV 0,iV 0,s],_,iV 0]) (e1))))
  | false =>
   rw [if_neg (by decide)] at hR
   subst hR
   refine Qc.go Tryz.func43 rfl ?_
   (repeat' (first|with_reducible refine And.intro ?_ ?_|(with_reducible intro hc;(try simp only [zz] at hc);try exact ct)|((conv=>whnf);first|(with_reducible first|refine And.intro ?_ ?_|intro hx|apply Val.via|apply Qi.via)|exact Is.mk rfl rfl|refine sp ?_|refine vx (by (first|exact hb0|exact hd|exact Q4 rfl rfl|exact Qa rfl rfl rfl|rfl)) ?_|refine dY ?_|(first|refine cl (k0 _) ?_|refine cl (k1 _) ?_|refine cl (k3 _) ?_)|refine sq ?_)))
   (all_goals (first|omega|contradiction|(show (_:Int)≤(t.length:Int);omega)|skip))
   ((all_goals refine Qf.mk ?_);all_goals (first|rfl|exact (congrArg (fun s=>VV.tp [.ag [iV 5,iV 0,iV 0,s],_,iV 0]) (e1))))
 | some d =>
  have ls:=ls d rfl
  have hd:=td d rfl
  have hdl:d.toNat < 256:=d.toNat_lt
  by_cases h61:d.toNat=61
  ·obtain rfl:d=61:=UInt8.toNat_inj.1 h61
   rw [t2 rfl] at e2
   cases q2 with
   | true =>
    rw [if_pos ⟨rfl,rfl⟩] at hR
    subst hR
    refine Qc.go Tryz.func43 rfl ?_
    (repeat' (first|with_reducible refine And.intro ?_ ?_|(with_reducible intro hc;(try simp only [zz] at hc);try exact ct)|((conv=>whnf);first|(with_reducible first|refine And.intro ?_ ?_|intro hx|apply Val.via|apply Qi.via)|exact Is.mk rfl rfl|refine sp ?_|refine vx (by (first|exact hb0|exact hd|exact Q4 rfl rfl|exact Qa rfl rfl rfl|rfl)) ?_|refine dY ?_|(first|refine cl (k0 _) ?_|refine cl (k1 _) ?_|refine cl (k2 _) ?_)|refine sq ?_)))
    (all_goals (first|omega|contradiction|(show (_:Int)≤(t.length:Int);omega)|skip))
    ((all_goals refine Qf.mk ?_);all_goals (first|rfl|exact (congrArg (fun s=>VV.tp [.ag [iV 5,iV 0,iV 0,s],_,iV 0]) (e2))))
   | false =>
    rw [if_neg (by simp)] at hR
    cases q1 with
    | true =>
     rw [if_pos rfl] at hR
     subst hR
     refine Qc.go Tryz.func43 rfl ?_
     (repeat' (first|with_reducible refine And.intro ?_ ?_|(with_reducible intro hc;(try simp only [zz] at hc);try exact ct)|((conv=>whnf);first|(with_reducible first|refine And.intro ?_ ?_|intro hx|apply Val.via|apply Qi.via)|exact Is.mk rfl rfl|refine sp ?_|refine vx (by (first|exact hb0|exact hd|exact Q4 rfl rfl|exact Qa rfl rfl rfl|rfl)) ?_|refine dY ?_|(first|refine cl (k0 _) ?_|refine cl (k1 _) ?_|refine cl (k2 _) ?_|refine cl (k3 _) ?_)|refine sq ?_)))
     (all_goals (first|omega|contradiction|(show (_:Int)≤(t.length:Int);omega)|skip))
     ((all_goals refine Qf.mk ?_);all_goals (first|rfl|exact (congrArg (fun s=>VV.tp [.ag [iV 5,iV 0,iV 0,s],_,iV 0]) (e1))))
    | false =>
     rw [if_neg (by decide)] at hR
     subst hR
     refine Qc.go Tryz.func43 rfl ?_
     (repeat' (first|with_reducible refine And.intro ?_ ?_|(with_reducible intro hc;(try simp only [zz] at hc);try exact ct)|((conv=>whnf);first|(with_reducible first|refine And.intro ?_ ?_|intro hx|apply Val.via|apply Qi.via)|exact Is.mk rfl rfl|refine sp ?_|refine vx (by (first|exact hb0|exact hd|exact Q4 rfl rfl|exact Qa rfl rfl rfl|rfl)) ?_|refine dY ?_|(first|refine cl (k0 _) ?_|refine cl (k1 _) ?_|refine cl (k2 _) ?_|refine cl (k3 _) ?_)|refine sq ?_)))
     (all_goals (first|omega|contradiction|(show (_:Int)≤(t.length:Int);omega)|skip))
     ((all_goals refine Qf.mk ?_);all_goals (first|rfl|exact (congrArg (fun s=>VV.tp [.ag [iV 5,iV 0,iV 0,s],_,iV 0]) (e1))))
  ·have hn: ¬ (some d=some 61):=fun h=>h61 (by injection h with h;rw [h];rfl)
   rw [if_neg (fun h=>hn h.1)] at hR
   cases q1 with
   | true =>
    rw [if_pos rfl] at hR
    subst hR
    refine Qc.go Tryz.func43 rfl ?_
    (repeat' (first|with_reducible refine And.intro ?_ ?_|(with_reducible intro hc;(try simp only [zz] at hc);try exact ct)|((conv=>whnf);first|(with_reducible first|refine And.intro ?_ ?_|intro hx|apply Val.via|apply Qi.via)|exact Is.mk rfl rfl|refine sp ?_|refine vx (by (first|exact hb0|exact hd|exact Q4 rfl rfl|exact Qa rfl rfl rfl|rfl)) ?_|refine dY ?_|(first|refine cl (k0 _) ?_|refine cl (k1 _) ?_|refine cl (k3 _) ?_)|refine sq ?_)))
    (all_goals (first|omega|contradiction|(show (_:Int)≤(t.length:Int);omega)|skip))
    ((all_goals refine Qf.mk ?_);all_goals (first|rfl|exact (congrArg (fun s=>VV.tp [.ag [iV 5,iV 0,iV 0,s],_,iV 0]) (e1))))
   | false =>
    rw [if_neg (by decide)] at hR
    subst hR
    refine Qc.go Tryz.func43 rfl ?_
    (repeat' (first|with_reducible refine And.intro ?_ ?_|(with_reducible intro hc;(try simp only [zz] at hc);try exact ct)|((conv=>whnf);first|(with_reducible first|refine And.intro ?_ ?_|intro hx|apply Val.via|apply Qi.via)|exact Is.mk rfl rfl|refine sp ?_|refine vx (by (first|exact hb0|exact hd|exact Q4 rfl rfl|exact Qa rfl rfl rfl|rfl)) ?_|refine dY ?_|(first|refine cl (k0 _) ?_|refine cl (k1 _) ?_|refine cl (k3 _) ?_)|refine sq ?_)))
    (all_goals (first|omega|contradiction|(show (_:Int)≤(t.length:Int);omega)|skip))
    ((all_goals refine Qf.mk ?_);all_goals (first|rfl|exact (congrArg (fun s=>VV.tp [.ag [iV 5,iV 0,iV 0,s],_,iV 0]) (e1))))
theorem dsign_call (c:UInt8) (r:List UInt8) (hl:(c::r).length≤4096) (H:Heap):Qc Tryz.prog 43 [Qe (c::r)] H (fun v K=>v=sgD3 (Xr (c::r))∧K=H):=by
 unfold Xr
 dsimp only
 by_cases h1:Wk c=true
 ·rw [if_pos h1]
  exact dname_call c r h1 hl H
 rw [if_neg h1]
 have h1:Wk c=false:=by simpa using h1
 by_cases h2:Jx c=true
 ·rw [if_pos h2]
  exact dnumb_call c r h1 h2 hl H
 rw [if_neg h2]
 have h2:Jx c=false:=by simpa using h2
 by_cases h3:c.toNat=34
 ·rw [if_pos h3]
  exact dtext_call c r h1 h2 h3 hl H
 rw [if_neg h3]
 exact dmark_call c r h1 h2 h3 hl H
theorem sty_dS:Dr Tryz.prog 58 4 40:=⟨⟨_,_,_,rfl,rfl,rfl,rfl,rfl,rfl⟩⟩
theorem rowsD_snoc (l:List (Sg×Nat)) (s:Sg) (a:Nat):Xw (l++ [(s,a)])=Xw l++Z4 s a:=by
 unfold Xw
 rw [List.flatMap_append,List.flatMap_cons,List.flatMap_nil,List.append_nil]
theorem frx_D {K:Heap} {b n:Nat} {vs:List VV} {l:List (Sg×Nat)} (hg:K.get b=some (.opt vs)) (hv:vs=Xw l) (hn:n=l.length):Frx K (.gs b n 4) (.ro l.length (Xw l)):=by
 subst hv hn
 exact Frx.gs hg (Dd l) (Nw Ft Xn l)
theorem ext_drop (t:List UInt8) (n:Nat):VV.sc (.string ((⟨t.toArray⟩:ByteArray).extract ((n:Int)).toNat t.length))=Qe (t.drop n):=by
 rw [Int.toNat_natCast,ext_str,List.take_of_length_le (by simp)]
 rfl
theorem blk_eq (c:UInt8):([32,9,13,10]:List UInt8).contains c=Ku c:=by
 unfold Ku
 by_cases h1:c=32
 ·subst h1;rfl
 by_cases h2:c=9
 ·subst h2;rfl
 by_cases h3:c=13
 ·subst h3;rfl
 by_cases h4:c=10
 ·subst h4;rfl
 have k: ∀ d:UInt8,c≠d→(c.toNat==d.toNat)=false:=fun d hd=>by simpa using fun h=>hd (UInt8.toNat_inj.1 h)
 rw [show (32:Nat)=(32:UInt8).toNat from rfl,show (9:Nat)=(9:UInt8).toNat from rfl,show (13:Nat)=(13:UInt8).toNat from rfl,show (10:Nat)=(10:UInt8).toNat from rfl,k 32 h1,k 9 h2,k 13 h3,k 10 h4]
 simp [h1,h2,h3,h4]
def U6 (t:List UInt8) (f:Nat) (l:List (Sg×Nat)) (a:Nat):Sum Nat (List (Sg×Nat)):=preG l (lexG f (Zy (t.drop a)) (a+empB (t.drop a) false) l.length)
theorem restG_blank {t:List UInt8} {a:Nat} {b:UInt8} (hb:t[a]? = some b) (h:Ku b=true) (f:Nat) (l:List (Sg×Nat)):U6 t f l a=U6 t f l (a+1):=by
 unfold U6 Zy
 have e:empB (t.drop a) false=empB (t.drop (a+1)) false+1:=by rw [X1 hb,empB,if_pos h]
 rw [e,List.drop_drop,List.drop_drop,show a+(empB (t.drop (a+1)) false+1)=a+1+empB (t.drop (a+1)) false by omega]
theorem restG_skip {t:List UInt8} {a j:Nat} (hj:a≤j) (e:empB (t.drop a) false=j - a+empB (t.drop j) false) (f:Nat) (l:List (Sg×Nat)):U6 t f l a=U6 t f l j:=by
 unfold U6 Zy
 rw [e,List.drop_drop,List.drop_drop,show a+(j - a+empB (t.drop j) false)=j+empB (t.drop j) false by omega]
theorem emp_in {t:List UInt8} {a:Nat} {b:UInt8} (hb:t[a]? = some b) (h:b.toNat≠10):empB (t.drop a) true=empB (t.drop (a+1)) true+1:=by
 rw [X1 hb,empB.eq_2,if_neg h]
theorem emp_nl {t:List UInt8} {a:Nat} {b:UInt8} (hb:t[a]? = some b) (h:b.toNat=10):empB (t.drop a) true=empB (t.drop a) false:=by
 rw [X1 hb,empB,if_pos h,empB,if_pos (by simp [Ku,h])]
theorem emp_hash {t:List UInt8} {a:Nat} {b:UInt8} (hb:t[a]? = some b) (h:b.toNat=35):empB (t.drop a) false=empB (t.drop a) true:=by
 rw [X1 hb]
 simp only [empB]
 rw [if_neg (by simp [Ku,h]),if_pos h,if_neg (by omega)]
theorem emp_no {t:List UInt8} {a:Nat} {b:UInt8} (hb:t[a]? = some b) (h1:Ku b=false) (h:b.toNat≠35):empB (t.drop a) false=0:=by
 rw [X1 hb,empB,if_neg (by simp [h1]),if_neg h]
theorem restG_end {t:List UInt8} {a:Nat} (h:a=t.length) (f:Nat) (l:List (Sg×Nat)):U6 t (f+1) l a= .inr (l++ [(noSg,a)]):=by
 subst h
 unfold U6 Zy
 rw [List.drop_length]
 rw [empB]
 rfl
theorem restG_sign {t:List UInt8} {a:Nat} {b:UInt8} (hb:t[a]? = some b) (h1:Ku b=false) (h:b.toNat≠35) (f:Nat) (l:List (Sg×Nat)):U6 t (f+1) l a=if (Xr (t.drop a)).e≠0 then .inl (Xr (t.drop a)).e else if 1024≤l.length then .inl 3 else U6 t f (l++ [((Xr (t.drop a)).sg,a)]) (a+(Xr (t.drop a)).n):=by
 have hne:t.drop a≠ []:=by rw [X1 hb];simp
 unfold U6 Zy
 rw [emp_no hb h1 h,List.drop_zero,lexG,if_neg hne]
 by_cases he:(Xr (t.drop a)).e≠0
 ·rw [if_pos he,if_pos he]
  rfl
 rw [if_neg he,if_neg he]
 by_cases hl:1024≤l.length
 ·rw [if_pos hl,if_pos hl]
  rfl
 rw [if_neg hl,if_neg hl,preG_step]
 simp only [Nat.add_zero,List.drop_drop,List.length_append,List.length_cons,List.length_nil,Zy]
theorem dsigns_call (t:List UInt8) (ht:t.length≤100000):Qc Tryz.prog 19 [Qe t] ⟨[],0⟩ (fun v K=>Frx K v (sgsD (Yi t))):=by
 generalize hR:Yi t=R
 unfold Yi at hR
 by_cases h4:4096 < t.length
 ·rw [if_pos h4] at hR
  subst hR
  refine Qc.go Tryz.func19 rfl ?_
  (repeat' (first|with_reducible refine And.intro ?_ ?_|(with_reducible intro hc;(try simp only [zz] at hc);try exact ct)|((conv=>whnf);first|(with_reducible first|refine And.intro ?_ ?_|intro hx|apply Val.via|apply Qi.via)|exact Is.mk rfl rfl|refine sp ?_|refine vx (by (first|exact hb|exact Qa rfl rfl rfl|exact Q4 rfl rfl|rfl)) ?_|refine dY ?_|fail|refine sq ?_)))
  (all_goals (first|omega|contradiction|(show (_:Int)≤(t.length:Int);omega)|skip))
  all_goals exact Qf.mk (Frx.tp (.cons Frx.nil0 (.cons (Frx.of (Xn _)) .nil)))
 rw [if_neg h4] at hR
 have hR:U6 t (t.length+1) [] 0=R:=by
  rw [← hR]
  unfold U6
  rw [List.drop_zero,Nat.zero_add]
  show preG [] (lexG (t.length+1) (Zy t) (empB t false) 0)=_
  cases lexG (t.length+1) (Zy t) (empB t false) 0 with
  | inl e=>rfl
  | inr l=>rfl
 obtain ⟨bAt,hbA⟩:=Fm t
 refine Qc.go Tryz.func19 rfl ?_
 (repeat' (first|with_reducible refine And.intro ?_ ?_|(with_reducible intro hc;(try simp only [zz] at hc);try exact ct)|((conv=>whnf);first|(with_reducible first|refine And.intro ?_ ?_|intro hx|apply Val.via|apply Qi.via)|exact Is.mk rfl rfl|refine sp ?_|refine vx (by (first|exact hb|exact Qa rfl rfl rfl|exact Q4 rfl rfl|rfl)) ?_|refine dY ?_|fail|refine sq ?_)))
 (all_goals (first|omega|contradiction|(show (_:Int)≤(t.length:Int);omega)|skip))
 (refine Ji.mk (GWP.loopB [0] (fun (s:List (Sg×Nat)×Nat×Nat)=>s.2.1≤t.length∧t.length - s.2.1 < s.2.2∧s.1.length≤1024∧U6 t s.2.2 s.1 s.2.1=R) (fun s=> [(4,.gs 1 s.1.length 4),(5,iV s.2.1)]) (fun s=> [(1,.opt (Xw s.1))]) 2 (fun s=>t.length - s.2.1) ([],0,t.length+1) ⟨Nat.zero_le _,by simp only;omega,Nat.zero_le _,hR⟩ ?_);(conv=>whnf);refine And.intro ?_ ?_)
 ·focus (refine ka [] ?_ ?_;all_goals (repeat' (first|exact rz|refine And.intro ?_ ?_|refine Exists.intro _ (And.intro rfl ?_)|refine ro ?_|refine Qu.cons ?_ ?_|fail|exact rv)))
 rintro ⟨l,a,f⟩ ⟨g1,g2,g3,g4⟩
 simp only at g1 g2 g3 g4 ⊢
 by_cases hta:a=t.length
 ·have hf:f=f - 1+1:=by omega
  rw [hf,restG_end hta] at g4
  subst g4
  subst hta
  (repeat' (first|with_reducible refine And.intro ?_ ?_|(with_reducible intro hc;(try simp only [zz] at hc);try exact ct)|((conv=>whnf);first|(with_reducible first|refine And.intro ?_ ?_|intro hx|apply Val.via|apply Qi.via)|exact Is.mk rfl rfl|refine sp ?_|refine vx (by (first|exact hb|exact Qa rfl rfl rfl|exact Q4 rfl rfl|rfl)) ?_|refine dY ?_|(refine Qs (Qr.grow rfl sty_dS (d:= .slice 65) Tryz.underlying58 (by intro k h;cases h) rfl (m:=1) (l:=Z4 noSg t.length) (by rfl) (by rfl) rfl (Dd l) (by omega) (by omega) ?_))|refine sq ?_)))
  (all_goals (first|omega|contradiction|(show (_:Int)≤(t.length:Int);omega)|skip))
  all_goals exact Qf.mk (Frx.tp (.cons (frx_D (l:=l++ [(noSg,t.length)]) rfl (rowsD_snoc l noSg t.length).symm (by simp)) (.cons (Frx.of (Xn _)) .nil)))
 have hb:=hbA a (by omega)
 have hbl:(bAt a).toNat < 256:=(bAt a).toNat_lt
 have ki: ∀ H,Qc Tryz.prog 42 [bV (bAt a),Qe [32,9,13,10]] H (fun x K=>x=Yg (Ku (bAt a))∧K=H):=fun H=>by
  rw [← blk_eq]
  exact Bb (bAt a) [32,9,13,10] (by decide) H
 by_cases hk:Ku (bAt a)=true
 ·rw [restG_blank hb hk] at g4
  rw [hk] at ki
  generalize bAt a=b at *
  (repeat' (first|with_reducible refine And.intro ?_ ?_|(with_reducible intro hc;(try simp only [zz] at hc);try exact ct)|((conv=>whnf);first|(with_reducible first|refine And.intro ?_ ?_|intro hx|apply Val.via|apply Qi.via)|exact Is.mk rfl rfl|refine sp ?_|refine vx (by (first|exact hb|exact Qa rfl rfl rfl|exact Q4 rfl rfl|rfl)) ?_|refine dY ?_|refine cl (ki _) ?_|refine sq ?_)))
  (all_goals (first|omega|contradiction|(show (_:Int)≤(t.length:Int);omega)|skip))
  focus (refine Qf.mk ⟨(l,a+1,f),⟨by simp only;omega,by simp only;omega,g3,g4⟩,?_,ka [(1,1)] ?_ ?_⟩;(first|omega|(simp only;omega));all_goals (repeat' (first|exact rz|refine And.intro ?_ ?_|refine Exists.intro _ (And.intro rfl ?_)|refine ro ?_|refine Qu.cons ?_ ?_|(first|exact Qu.of (Nw Qq Qb _)|exact Qn.eq (Qz (by omega)) (Qb _))|exact rv)))
 have hk:Ku (bAt a)=false:=by simpa using hk
 rw [hk] at ki
 by_cases hh:(bAt a).toNat=35
 ·have hh0:=hh
  (repeat' (first|with_reducible refine And.intro ?_ ?_|(with_reducible intro hc;(try simp only [zz] at hc);try exact ct)|((conv=>whnf);first|(with_reducible first|refine And.intro ?_ ?_|intro hx|apply Val.via|apply Qi.via)|exact Is.mk rfl rfl|refine sp ?_|refine vx (by (first|exact hb|exact Qa rfl rfl rfl|exact Q4 rfl rfl|rfl)) ?_|refine dY ?_|refine cl (ki _) ?_|refine sq ?_)))
  (all_goals (first|omega|contradiction|(show (_:Int)≤(t.length:Int);omega)|skip))
  (refine Ji.mk (GWP.loopB [] (fun (j:Nat)=>a≤j∧j≤t.length∧empB (t.drop a) false=j - a+empB (t.drop j) true) (fun j=> [(5,iV j)]) (fun _=> []) 2 (fun j=>t.length - j) a ⟨Nat.le_refl _,g1,by rw [emp_hash hb hh0];omega⟩ ?_);(conv=>whnf);refine And.intro ?_ ?_)
  ·focus (refine ka [] ?_ ?_;all_goals (repeat' (first|exact rz|refine And.intro ?_ ?_|refine Exists.intro _ (And.intro rfl ?_)|refine ro ?_|refine Qu.cons ?_ ?_|fail|exact rv)))
  rintro j ⟨j1,j2,j3⟩
  simp only at j1 j2 j3 ⊢
  by_cases hj:j < t.length
  ·have hb2:=hbA j hj
   have hbl2:(bAt j).toNat < 256:=(bAt j).toNat_lt
   by_cases h10:(bAt j).toNat=10
   ·have hne:a≠j:=fun e=>by rw [e] at hh0;omega
    rw [emp_nl hb2 h10] at j3
    rw [restG_skip j1 j3] at g4
    (repeat' (first|with_reducible refine And.intro ?_ ?_|(with_reducible intro hc;(try simp only [zz] at hc);try exact ct)|((conv=>whnf);first|(with_reducible first|refine And.intro ?_ ?_|intro hx|apply Val.via|apply Qi.via)|exact Is.mk rfl rfl|refine sp ?_|refine vx (by (first|exact hb2|(first|exact hb|exact Qa rfl rfl rfl|exact Q4 rfl rfl|rfl))) ?_|refine dY ?_|fail|refine sq ?_)))
    (all_goals (first|omega|contradiction|(show (_:Int)≤(t.length:Int);omega)|skip))
    focus (refine Qf.mk ⟨(l,j,f),⟨j2,by simp only;omega,g3,g4⟩,?_,ka [(1,1)] ?_ ?_⟩;(first|omega|(simp only;omega));all_goals (repeat' (first|exact rz|refine And.intro ?_ ?_|refine Exists.intro _ (And.intro rfl ?_)|refine ro ?_|refine Qu.cons ?_ ?_|(first|exact Qu.of (Nw Qq Qb _)|exact Qn.eq (Qz (by omega)) (Qb _))|exact rv)))
   ·rw [emp_in hb2 h10] at j3
    (repeat' (first|with_reducible refine And.intro ?_ ?_|(with_reducible intro hc;(try simp only [zz] at hc);try exact ct)|((conv=>whnf);first|(with_reducible first|refine And.intro ?_ ?_|intro hx|apply Val.via|apply Qi.via)|exact Is.mk rfl rfl|refine sp ?_|refine vx (by (first|exact hb2|(first|exact hb|exact Qa rfl rfl rfl|exact Q4 rfl rfl|rfl))) ?_|refine dY ?_|fail|refine sq ?_)))
    (all_goals (first|omega|contradiction|(show (_:Int)≤(t.length:Int);omega)|skip))
    focus (refine Qf.mk ⟨j+1,⟨by omega,by omega,by omega⟩,?_,ka [] ?_ ?_⟩;(first|omega|(simp only;omega));all_goals (repeat' (first|exact rz|refine And.intro ?_ ?_|refine Exists.intro _ (And.intro rfl ?_)|refine ro ?_|refine Qu.cons ?_ ?_|exact Qn.eq (Qz (by omega)) (Qb _)|exact rv)))
  ·have hje:j=t.length:=by omega
   have e0:empB (t.drop j) true=empB (t.drop j) false:=by rw [hje,List.drop_length];rfl
   rw [e0] at j3
   rw [restG_skip j1 j3] at g4
   (repeat' (first|with_reducible refine And.intro ?_ ?_|(with_reducible intro hc;(try simp only [zz] at hc);try exact ct)|((conv=>whnf);first|(with_reducible first|refine And.intro ?_ ?_|intro hx|apply Val.via|apply Qi.via)|exact Is.mk rfl rfl|refine sp ?_|refine vx (by (first|exact hb|exact Qa rfl rfl rfl|exact Q4 rfl rfl|rfl)) ?_|refine dY ?_|fail|refine sq ?_)))
   (all_goals (first|omega|contradiction|(show (_:Int)≤(t.length:Int);omega)|skip))
   focus (refine Qf.mk ⟨(l,j,f),⟨j2,by simp only;omega,g3,g4⟩,?_,ka [(1,1)] ?_ ?_⟩;(first|omega|(simp only;omega));all_goals (repeat' (first|exact rz|refine And.intro ?_ ?_|refine Exists.intro _ (And.intro rfl ?_)|refine ro ?_|refine Qu.cons ?_ ?_|(first|exact Qu.of (Nw Qq Qb _)|exact Qn.eq (Qz (by omega)) (Qb _))|exact rv)))
 have hf:f=f - 1+1:=by omega
 rw [hf,restG_sign hb hk hh] at g4
 have hsg:=fun H=>dsign_call (bAt a) (t.drop (a+1)) (by rw [← X1 hb,List.length_drop];omega) H
 rw [← X1 hb] at hsg
 have hsn:=lexS_n (t.drop a)
 rw [List.length_drop] at hsn
 generalize hS:Xr (t.drop a)=S at *
 generalize bAt a=b at *
 by_cases hee:S.e=0
 ·have hsn:=hsn hee
  unfold sgD3 at hsg
  rw [if_pos hee] at hsg
  rw [if_neg (by simp [hee])] at g4
  by_cases h10:1024≤l.length
  ·rw [if_pos h10] at g4
   subst g4
   (repeat' (first|with_reducible refine And.intro ?_ ?_|(with_reducible intro hc;(try simp only [zz] at hc);try exact ct)|((conv=>whnf);first|(with_reducible first|refine And.intro ?_ ?_|intro hx|apply Val.via|apply Qi.via)|exact Is.mk rfl rfl|refine sp ?_|refine vx (by (first|exact hb|exact Qa rfl rfl rfl|exact Q4 rfl rfl|rfl)) ?_|refine dY ?_|(first|refine cl (ki _) ?_|(refine Q7.arg1 (ext_drop t a) ?_;refine Q7.mk ((hsg _).mono ?_);rintro _ _ ⟨rfl,rfl⟩))|refine sq ?_)))
   (all_goals (first|omega|contradiction|(show (_:Int)≤(t.length:Int);omega)|skip))
   all_goals exact Qf.mk (Frx.tp (.cons Frx.nil0 (.cons (Frx.of (Xn _)) .nil)))
  ·rw [if_neg h10] at g4
   (repeat' (first|with_reducible refine And.intro ?_ ?_|(with_reducible intro hc;(try simp only [zz] at hc);try exact ct)|((conv=>whnf);first|(with_reducible first|refine And.intro ?_ ?_|intro hx|apply Val.via|apply Qi.via)|exact Is.mk rfl rfl|refine sp ?_|refine vx (by (first|exact hb|exact Qa rfl rfl rfl|exact Q4 rfl rfl|rfl)) ?_|refine dY ?_|(first|refine cl (ki _) ?_|(refine Q7.arg1 (ext_drop t a) ?_;refine Q7.mk ((hsg _).mono ?_);rintro _ _ ⟨rfl,rfl⟩)|(refine Qs (Qr.grow rfl sty_dS (d:= .slice 65) Tryz.underlying58 (by intro k h;cases h) rfl (m:=1) (l:=Z4 S.sg a) (by rfl) (by rfl) rfl (Dd l) (by omega) (by omega) ?_)))|refine sq ?_)))
   (all_goals (first|omega|contradiction|(show (_:Int)≤(t.length:Int);omega)|skip))
   focus (refine Qf.mk ⟨(l++ [(S.sg,a)],a+S.n,f - 1),⟨by simp only;omega,by simp only;omega,by simp only [List.length_append,List.length_cons,List.length_nil];omega,g4⟩,?_,ka [(4,1)] ?_ ?_⟩;(first|omega|(simp only;omega));all_goals (repeat' (first|exact rz|refine And.intro ?_ ?_|refine Exists.intro _ (And.intro rfl ?_)|refine ro ?_|refine Qu.cons ?_ ?_|(first|exact Qu.eq (rowsD_snoc l S.sg a).symm (Nw Qq Qb _)|exact Qn.eq (Qz (by omega)) (Qb _))|exact rv)))
 ·unfold sgD3 at hsg
  rw [if_neg hee] at hsg
  rw [if_pos hee] at g4
  subst g4
  have hen:S.e=S.e - 1+1:=by omega
  generalize S.e - 1=e' at hen
  rw [hen] at hsg ⊢
  (repeat' (first|with_reducible refine And.intro ?_ ?_|(with_reducible intro hc;(try simp only [zz] at hc);try exact ct)|((conv=>whnf);first|(with_reducible first|refine And.intro ?_ ?_|intro hx|apply Val.via|apply Qi.via)|exact Is.mk rfl rfl|refine sp ?_|refine vx (by (first|exact hb|exact Qa rfl rfl rfl|exact Q4 rfl rfl|rfl)) ?_|refine dY ?_|(first|refine cl (ki _) ?_|(refine Q7.arg1 (ext_drop t a) ?_;refine Q7.mk ((hsg _).mono ?_);rintro _ _ ⟨rfl,rfl⟩))|refine sq ?_)))
  (all_goals (first|omega|contradiction|(show (_:Int)≤(t.length:Int);omega)|skip))
  all_goals exact Qf.mk (Frx.tp (.cons Frx.nil0 (.cons (Frx.of (Xn _)) .nil)))
end Go.Proofs.YtnmjdjldbloefaaGreatDoor
