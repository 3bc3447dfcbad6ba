import Derived.Test.YtpbiblhkcomekaaGreatBE5
import Derived.Test.YtpbiblhkcomekaaGreatBA2
/- The maker's put, here and lead, walked. -/
namespace Go.Proofs.YtpbiblhkcomekaaGreat
open Go Go.RowKit
set_option linter.unusedSimpArgs false
set_option linter.unusedVariables false
set_option maxRecDepth 100000
set_option maxHeartbeats 8000000
theorem sty_I:B2 Tryz.prog 36 3 32:=⟨⟨_,_,_,rfl,rfl,rfl,rfl,rfl,rfl⟩⟩
theorem vagg_op:Wo Tryz.prog 39=some false:=by kernel_rfl
theorem vagg_int:Wo Tryz.prog 3=some false:=by kernel_rfl
theorem Bu {m n o j:Nat} (h:m=n+1) (ho:o=j):((m:Int) - 1).toNat*3+o=n*3+j:=by omega
theorem idxl {n o j:Nat} (ho:o=j):(n:Int).toNat*3+o=n*3+j:=by omega
theorem ins_at {l:List Ins} {n:Nat} {y:Ins} (h:l[n]? = some y):(Xn l)[n*3+0]? = some (iV y.op)∧(Xn l)[n*3+1]? = some (iV y.a):=⟨by have:=rowsF_at Zz (j:=0) (by omega) h;exact this,by have:=rowsF_at Zz (j:=1) (by omega) h;exact this⟩
theorem ins_set {l:List Ins} {n:Nat} {y:Ins} (h:l[n]? = some y) (a:Nat):J3 (Xn l) (n*3+1) [iV a]=Xn (l.set n ⟨y.op,a,y.text⟩):=by
 have:=rowsF_set Zz (j:=1) (by omega) (iV a) ⟨y.op,a,y.text⟩ h rfl
 exact this
theorem Dz (a b:Int):maxZ a b=max a b:=by
 unfold maxZ
 split <;> omega
theorem put_call (s:MkS) (op a:Nat) (t:List UInt8) (g:Int) (hb:Bd s 900000) (ha:a≤900000) (hg1: -900000≤g) (hg2:g≤900000):MkC 45 [.ptr 1 0,iV op,iV a,Qn t,iV g] s (iV (Qv op a t g s).1) (Qv op a t g s).2:=by
 have hl:=hb.l
 have b1:=hb.d1
 have b2:=hb.d2
 have b3:=hb.m1
 have b4:=hb.m2
 have b5:=hb.fixed
 refine MkC.of (Qb _) fun x hx=> ?_
 have ho3:=trivial
 have hn:=trivial
 have ho4:=trivial
 cases hgl:s.l.getLast? with
 | none =>
  have hsl:s.l= []:=List.getLast?_eq_none_iff.1 hgl
  have e:Qv op a t g s=(s.l.length,{s with l:=s.l++ [⟨op,a,t⟩],depth:=s.depth+g,most:=max s.most (s.depth+g)}):=by unfold Qv;rw [hgl]
  rw [e]
  have hn0:s.l.length=0:=by rw [hsl];rfl
  refine Qc.go Tryz.func45 rfl ?_
  (repeat' (first|with_reducible refine And.intro ?_ ?_|(with_reducible intro hc;(try simp only [zz] at hc);try exact ct)|((conv=>whnf);first|(with_reducible first|refine And.intro ?_ ?_|intro hx|apply Val.via|apply Qk.via)|exact Is.mk rfl rfl|refine sp ?_|refine vx (by (first|exact Qa vagg_op ho3 (Bu hn rfl)|exact Qa vagg_int ho4 (Bu hn rfl)|exact Qa rfl rfl rfl|rfl)) ?_|refine dY ?_|(refine Qw (Qr.grow rfl sty_I (d:= .slice 41) Tryz.underlying36 (by intro k h;cases h) rfl (m:=1) (l:= [iV op,iV a,Qn t]) (by rfl) (by rfl) rfl (Zc _) (by omega) (by omega) ?_))|refine sq ?_)))
  (all_goals try exact om)
  all_goals exact Qg.mk ⟨by rw [hn0];rfl,3,4,7,rfl,by (simp only [mkO,List.length_append,List.length_cons,List.length_nil,Ci,← Dz];exact (by repeat' (first|exact trivial|refine And.intro rfl ?_)))⟩
 | some y =>
  have hne:s.l≠ []:=fun e=>by rw [e] at hgl;cases hgl
  obtain ⟨n,hn⟩: ∃ n,s.l.length=n+1:=⟨s.l.length - 1,by have:=List.length_pos_iff.2 hne;omega⟩
  have hy:s.l[n]? = some y:=by rw [List.getLast?_eq_getElem?,hn] at hgl;exact hgl
  clear ho3 ho4
  obtain ⟨ho3,ho4⟩:=ins_at hy
  have hya:=hb.a y (List.mem_of_getElem? hy)
  by_cases hm:op=0∧s.fixed < s.l.length∧y.op=0
  ·have e:Qv op a t g s=(n,{s with l:=s.l.set n ⟨y.op,y.a+a,y.text⟩,depth:=s.depth+g,most:=max s.most (s.depth+g)}):=by
    unfold Qv
    rw [hgl]
    simp only
    rw [if_pos hm,hn]
    have:s.l.dropLast++ [⟨y.op,y.a+a,y.text⟩]=s.l.set n ⟨y.op,y.a+a,y.text⟩:=by
     obtain ⟨l',h2⟩:=List.getLast?_eq_some_iff.1 hgl
     have h3:l'.length=n:=by have:=congrArg List.length h2;rw [hn,List.length_append,List.length_singleton] at this;omega
     rw [h2,List.dropLast_concat,List.set_append_right _ _ (by omega),h3,Nat.sub_self,List.set_cons_zero]
    rw [this]
    rfl
   rw [e]
   obtain ⟨rfl,hf,hy0⟩:=hm
   rw [hy0] at ho3
   have hsl:=ins_set hy (y.a+a)
   rw [Int.natCast_add] at hsl
   refine Qc.go Tryz.func45 rfl ?_
   (repeat' (first|with_reducible refine And.intro ?_ ?_|(with_reducible intro hc;(try simp only [zz] at hc);try exact ct)|((conv=>whnf);first|(with_reducible first|refine And.intro ?_ ?_|intro hx|apply Val.via|apply Qk.via)|exact Is.mk rfl rfl|refine sp ?_|refine vx (by (first|exact Qa vagg_op ho3 (Bu hn rfl)|exact Qa vagg_int ho4 (Bu hn rfl)|exact Qa rfl rfl rfl|rfl)) ?_|refine dY ?_|(refine Qw (Qr.stOpt (q':=n*3+1) (n:=1) rfl rfl rfl (by kernel_rfl) rfl (by rw [Zc];omega) rfl (Bu hn rfl) ?_))|refine sq ?_)))
   (all_goals try exact om)
   all_goals exact Qg.mk ⟨by (first|rfl|exact Q9 (by omega)),3,4,5,rfl,by (simp only [mkO,List.length_set,← hsl,← Dz];exact (by repeat' (first|exact trivial|refine And.intro rfl ?_)))⟩
  ·have e:Qv op a t g s=(s.l.length,{s with l:=s.l++ [⟨op,a,t⟩],depth:=s.depth+g,most:=max s.most (s.depth+g)}):=by
    unfold Qv;rw [hgl];simp only;rw [if_neg hm]
   rw [e]
   by_cases h0:op=0
   ·subst h0
    by_cases hf:s.fixed < s.l.length
    ·have hy0:y.op≠0:=fun h=>hm ⟨rfl,hf,h⟩
     refine Qc.go Tryz.func45 rfl ?_
     (repeat' (first|with_reducible refine And.intro ?_ ?_|(with_reducible intro hc;(try simp only [zz] at hc);try exact ct)|((conv=>whnf);first|(with_reducible first|refine And.intro ?_ ?_|intro hx|apply Val.via|apply Qk.via)|exact Is.mk rfl rfl|refine sp ?_|refine vx (by (first|exact Qa vagg_op ho3 (Bu hn rfl)|exact Qa vagg_int ho4 (Bu hn rfl)|exact Qa rfl rfl rfl|rfl)) ?_|refine dY ?_|(refine Qw (Qr.grow rfl sty_I (d:= .slice 41) Tryz.underlying36 (by intro k h;cases h) rfl (m:=1) (l:= [iV 0,iV a,Qn t]) (by rfl) (by rfl) rfl (Zc _) (by omega) (by omega) ?_))|refine sq ?_)))
     (all_goals try exact om)
     all_goals exact Qg.mk ⟨by (first|rfl|exact Q9 (by omega)),3,4,7,rfl,by (simp only [mkO,List.length_append,List.length_cons,List.length_nil,Ci,← Dz];exact (by repeat' (first|exact trivial|refine And.intro rfl ?_)))⟩
    ·refine Qc.go Tryz.func45 rfl ?_
     (repeat' (first|with_reducible refine And.intro ?_ ?_|(with_reducible intro hc;(try simp only [zz] at hc);try exact ct)|((conv=>whnf);first|(with_reducible first|refine And.intro ?_ ?_|intro hx|apply Val.via|apply Qk.via)|exact Is.mk rfl rfl|refine sp ?_|refine vx (by (first|exact Qa vagg_op ho3 (Bu hn rfl)|exact Qa vagg_int ho4 (Bu hn rfl)|exact Qa rfl rfl rfl|rfl)) ?_|refine dY ?_|(refine Qw (Qr.grow rfl sty_I (d:= .slice 41) Tryz.underlying36 (by intro k h;cases h) rfl (m:=1) (l:= [iV 0,iV a,Qn t]) (by rfl) (by rfl) rfl (Zc _) (by omega) (by omega) ?_))|refine sq ?_)))
     (all_goals try exact om)
     all_goals exact Qg.mk ⟨by (first|rfl|exact Q9 (by omega)),3,4,7,rfl,by (simp only [mkO,List.length_append,List.length_cons,List.length_nil,Ci,← Dz];exact (by repeat' (first|exact trivial|refine And.intro rfl ?_)))⟩
   ·refine Qc.go Tryz.func45 rfl ?_
    (repeat' (first|with_reducible refine And.intro ?_ ?_|(with_reducible intro hc;(try simp only [zz] at hc);try exact ct)|((conv=>whnf);first|(with_reducible first|refine And.intro ?_ ?_|intro hx|apply Val.via|apply Qk.via)|exact Is.mk rfl rfl|refine sp ?_|refine vx (by (first|exact Qa vagg_op ho3 (Bu hn rfl)|exact Qa vagg_int ho4 (Bu hn rfl)|exact Qa rfl rfl rfl|rfl)) ?_|refine dY ?_|(refine Qw (Qr.grow rfl sty_I (d:= .slice 41) Tryz.underlying36 (by intro k h;cases h) rfl (m:=1) (l:= [iV op,iV a,Qn t]) (by rfl) (by rfl) rfl (Zc _) (by omega) (by omega) ?_))|refine sq ?_)))
    (all_goals try exact om)
    all_goals exact Qg.mk ⟨by (first|rfl|exact Q9 (by omega)),3,4,7,rfl,by (simp only [mkO,List.length_append,List.length_cons,List.length_nil,Ci,← Dz];exact (by repeat' (first|exact trivial|refine And.intro rfl ?_)))⟩
theorem hereL_call (s:MkS) (x:VV):Qc Tryz.prog 115 [.ptr 1 0] ⟨mkO 3 4 5 s x,6⟩ (fun v K=>v=iV s.l.length∧K=⟨mkO 3 4 5 (Z9 s) x,6⟩):=by
 have ho3:=trivial
 have hn:=trivial
 have ho4:=trivial
 refine Qc.go Tryz.func115 rfl ?_
 (repeat' (first|with_reducible refine And.intro ?_ ?_|(with_reducible intro hc;(try simp only [zz] at hc);try exact ct)|((conv=>whnf);first|(with_reducible first|refine And.intro ?_ ?_|intro hx|apply Val.via|apply Qk.via)|exact Is.mk rfl rfl|refine sp ?_|refine vx (by (first|exact Qa vagg_op ho3 (Bu hn rfl)|exact Qa vagg_int ho4 (Bu hn rfl)|exact Qa rfl rfl rfl|rfl)) ?_|refine dY ?_|fail|refine sq ?_)))
 (all_goals try exact om)
 all_goals exact Qg.mk ⟨rfl,rfl⟩
theorem here_call (s:MkS):MkC 115 [.ptr 1 0] s (iV s.l.length) (Z9 s):=MkC.of (Qb _) fun x hx=>(hereL_call s x).mono (by
 rintro v K ⟨rfl,rfl⟩
 exact ⟨rfl,3,4,5,rfl,(by repeat' (first|exact trivial|refine And.intro rfl ?_))⟩)
theorem lead_call (s:MkS) (i:Nat) (hi:i < s.l.length) (hl:s.l.length≤900000):MkC 117 [.ptr 1 0,iV i] s (.tp []) (Ye i s):=by
 refine MkC.of (Qt (by simp)) fun x hx=> ?_
 have ho3:=trivial
 have hn:=trivial
 have ho4:=trivial
 obtain ⟨y,hy⟩:=Z4 hi
 have hsl:=ins_set hy s.l.length
 have e:Ye i s= {s with l:=s.l.set i ⟨y.op,s.l.length,y.text⟩,fixed:=s.l.length}:=by
  unfold Ye Ux
  rw [hy]
 rw [e]
 refine Qc.go Tryz.func117 rfl ?_
 (repeat' (first|with_reducible refine And.intro ?_ ?_|(with_reducible intro hc;(try simp only [zz] at hc);try exact ct)|((conv=>whnf);first|(with_reducible first|refine And.intro ?_ ?_|intro hx|apply Val.via|apply Qk.via)|exact Is.mk rfl rfl|refine sp ?_|refine vx (by (first|exact Qa vagg_op ho3 (Bu hn rfl)|exact Qa vagg_int ho4 (Bu hn rfl)|exact Qa rfl rfl rfl|rfl)) ?_|fail|refine sq ?_)))
 (all_goals try exact om)
 refine Ju.mk (GWP.drawM mixed 13 [6,9] (fun H=> [⟨mkO 3 4 5 (Z9 s) x,6⟩,(⟨mkO 3 4 5 (Z9 s) x,6⟩:Heap).set 5 (.opt (J3 (Xn s.l) (i*3+1) [iV s.l.length]))]) (by kernel_rfl) (by rfl) ?_)
 repeat' (first|with_reducible refine And.intro ?_ ?_|(with_reducible intro hc;(try simp only [zz] at hc);try exact ct)|exact trivial|((conv=>whnf);first|with_reducible refine And.intro ?_ ?_|with_reducible intro hx|exact Is.mk rfl rfl|exact trivial|(with_reducible first|apply Val.via|apply Qk.via)|(refine Qw (Qr.stOpt (q':=i*3+1) (n:=1) rfl rfl rfl (by kernel_rfl) rfl (by rw [Zc];show i*3+1+1≤s.l.length*3;omega) rfl (idxl rfl) ?_))|refine sp ?_|refine vx (by (first|exact Qa vagg_op ho3 (Bu hn rfl)|exact Qa vagg_int ho4 (Bu hn rfl)|exact Qa rfl rfl rfl|rfl)) ?_|refine cl (hereL_call s x) ?_|refine sq ?_))
 (all_goals try exact om)
 all_goals exact Qg.mk ⟨rfl,3,4,5,rfl,by simp only [mkO,List.length_set,← hsl];exact (by repeat' (first|exact trivial|refine And.intro rfl ?_))⟩
end Go.Proofs.YtpbiblhkcomekaaGreat
namespace Go.Proofs.YtpbiblhkcomekaaGreat
open Go Go.RowKit
set_option linter.unusedSimpArgs false
set_option linter.unusedVariables false
set_option maxRecDepth 100000
set_option maxHeartbeats 8000000
theorem Qm {l:List Nd} {i o op nm:Nat} {tx:List UInt8} {ks:List Nd} (h:l[i]? = some (.mk op tx nm ks)) (ho:o=i*4):vat Tryz.prog 63 (rowsN l) o=some (.ag [iV op,Qn tx,iV nm,.ro ks.length (rowsN ks)]):=by
 have h1:Wo Tryz.prog 63=some true:=by kernel_rfl
 have h2:Jr Tryz.prog 63=some 4:=by kernel_rfl
 subst ho
 have key: ∀ (l:List Nd) (i:Nat) (n:Nd),l[i]? = some n→((rowsN l).drop (i*4)).take 4=cellsN n∧i*4+4≤(rowsN l).length:=by
  intro l
  induction l with
  | nil=>intro i n h;simp at h
  | cons q r ih =>
   intro i n h
   cases i with
   | zero =>
    simp at h
    subst h
    rw [rowsN]
    refine ⟨?_,by rw [List.length_append,X5];omega⟩
    rw [Nat.zero_mul,List.drop_zero,List.take_append_of_le_length (by rw [X5];exact Nat.le_refl _),List.take_of_length_le (by rw [X5];exact Nat.le_refl _)]
   | succ i =>
    have ih:=ih i n (by simpa using h)
    rw [rowsN,show (i+1)*4=(cellsN q).length+i*4 by rw [X5];omega,List.drop_append]
    refine ⟨?_,by rw [List.length_append];omega⟩
    rw [List.drop_of_length_le (by omega),List.nil_append,show (cellsN q).length+i*4 - (cellsN q).length=i*4 by omega]
    exact ih.1
 obtain ⟨k1,k2⟩:=key l i _ h
 have h3:Nat.ble (i*4+4) (rowsN l).length=true:=Nat.ble_eq_true_of_le k2
 simp only [vat,h1,h2,h3,k1,cellsN]
theorem Bd.mono {s:MkS} {k j:Nat} (h:Bd s k) (hj:k≤j):Bd s j:=by
 obtain ⟨h1,h2,h3,h4,h5,h6,h7,h8,h9⟩:=h
 exact ⟨by omega,by omega,by omega,by omega,by omega,by omega,by omega,by omega,fun x hx=>Nat.le_trans (h9 x hx) hj⟩
theorem Bd.put {s:MkS} {k:Nat} (h:Bd s k) (op a:Nat) (t:List UInt8) (g:Int) {j:Nat} (hj:k+1≤j) (h0:op=0→k+a≤j) (ha:a≤j) (hg1: -(j:Int)≤g - k) (hg2:g+k≤j):Bd (Qv op a t g s).2 j:=by
 obtain ⟨h1,h2,h3,h4,h5,h6,h7,h8,h9⟩:=h
 have app:Bd {s with l:=s.l++ [⟨op,a,t⟩],depth:=s.depth+g,most:=max s.most (s.depth+g)} j:=by
  refine ⟨?_,?_,?_,?_,?_,?_,?_,?_,?_⟩ <;> simp only [List.length_append,List.length_cons,List.length_nil]
  all_goals try omega
  intro x hx
  rcases List.mem_append.1 hx with hx|hx
  ·have:=h9 x hx
   omega
  ·rw [List.mem_singleton] at hx
   subst hx
   exact ha
 unfold Qv
 cases e:s.l.getLast? with
 | none=>exact app
 | some y =>
  simp only
  split
  ·rename_i hc
   obtain ⟨rfl,hf,hy⟩:=hc
   refine ⟨?_,?_,?_,?_,?_,?_,?_,?_,?_⟩ <;> simp only [List.length_append,List.length_cons,List.length_nil,List.length_dropLast]
   all_goals try omega
   intro x hx
   rcases List.mem_append.1 hx with hx|hx
   ·have:=h9 x (List.dropLast_subset _ hx)
    omega
   ·rw [List.mem_singleton] at hx
    subst hx
    have:=h9 y (List.mem_of_getLast? e)
    have:=h0 rfl
    simp only
    omega
  ·exact app
theorem posL_lt {α:Type} [DecidableEq α] {l:List α} {x:α} (h:x∈l):Dw l x < l.length:=by
 induction l with
 | nil=>cases h
 | cons y r ih =>
  rw [Dw]
  split
  ·simp
  ·rename_i hn
   rcases List.mem_cons.1 h with h|h
   ·exact absurd h hn
   ·have:=ih h
    simp only [List.length_cons]
    omega
theorem Z8 {α:Type} [DecidableEq α] (l:List α) (x:α):(Jp l x).1≤l.length∧(Jp l x).2.length≤l.length+1∧l.length≤(Jp l x).2.length∧(Jp l x).1 < (Jp l x).2.length:=by
 unfold Jp
 split
 ·rename_i h
  have:=posL_lt h
  refine ⟨by simp only;omega,by simp only;omega,by simp only;omega,by simp only;omega⟩
 ·simp
theorem Bd.name {s:MkS} {k:Nat} (h:Bd s k) (x:List UInt8):Bd (Xz x s).2 (k+1)∧(Xz x s).1≤k:=by
 obtain ⟨h1,h2,h3,h4,h5,h6,h7,h8,h9⟩:=h
 obtain ⟨p1,p2,p3,p4⟩:=Z8 s.names x
 refine ⟨⟨?_,?_,?_,?_,?_,?_,?_,?_,fun y hy=>Nat.le_trans (h9 y hy) (Nat.le_succ _)⟩,?_⟩ <;> simp only [Xz] <;> omega
theorem Bd.cst {s:MkS} {k:Nat} (h:Bd s k) (x:Cst):Bd (Kq x s).2 (k+1)∧(Kq x s).1≤k:=by
 obtain ⟨h1,h2,h3,h4,h5,h6,h7,h8,h9⟩:=h
 obtain ⟨p1,p2,p3,p4⟩:=Z8 s.consts x
 refine ⟨⟨?_,?_,?_,?_,?_,?_,?_,?_,fun y hy=>Nat.le_trans (h9 y hy) (Nat.le_succ _)⟩,?_⟩ <;> simp only [Kq] <;> omega
theorem Da {l:List VV} (h: ∀ v∈l,Qd v): ∀ v∈VV.ptr 1 0::l,MArg v:=fun v hv=>by
 rcases List.mem_cons.1 hv with rfl|hv
 ·exact .inr ⟨_,.inr rfl⟩
 ·exact .inl (h v hv)
theorem marg_p {o:Nat} {l:List VV} (h: ∀ v∈l,Qd v): ∀ v∈VV.ptr 0 o::l,MArg v:=fun v hv=>by
 rcases List.mem_cons.1 hv with rfl|hv
 ·exact .inr ⟨_,.inl rfl⟩
 ·exact .inl (h v hv)
theorem nl4 {op a g:Int} {t:List UInt8}: ∀ v∈ [iV op,iV a,Qn t,iV g],Qd v:=fun v hv=>by
 simp only [List.mem_cons,List.not_mem_nil,or_false] at hv
 rcases hv with rfl|rfl|rfl|rfl
 ·exact Qb _
 ·exact Qb _
 ·exact Qj _
 ·exact Qb _
theorem nl1 {v:VV} (h:Qd v): ∀ u∈ [v],Qd u:=fun u hu=>by rw [List.mem_singleton] at hu;subst hu;exact h
section
variable {s:MkS} {x:VV} {a b c n:Nat} {H:Heap}
theorem Kf (op i:Nat) (t:List UInt8) (g:Int) (hd:Bd s 900000) (ha:i≤900000) (hg1: -900000≤g) (hg2:g≤900000) (hx:Qd x) (g0:H.get 0=some (.cells true [.gs a s.names.length 1,.gs b s.consts.length 3,.mp 2,x])) (g1:H.get 1=some (.cells true [.ptr 0 0,.gs c s.l.length 3,iV s.fixed,iV s.depth,iV s.most])) (g3:H.get a=some (.opt (nmR s.names))) (g4:H.get b=some (.opt (Yy s.consts))) (g5:H.get c=some (.opt (Xn s.l))) (hn:H.next=n) (hb:Nm3 a b c n) :
  Qc Tryz.prog 45 [.ptr 1 0,iV op,iV i,Qn t,iV g] H (fun v K=>v=iV (Qv op i t g s).1∧K=⟨mkO n (n+1) (n+2) (Qv op i t g s).2 x++Qs [0,1,a,b,c] H.objs,n+3⟩) :=
 MkC.at hb hx (Qb _) (Da nl4) (put_call s op i t g hd ha hg1 hg2) g0 g1 g3 g4 g5 hn
theorem placeSAt (t:List UInt8) (hd:Bd s 900000) (hx:Qd x) (g0:H.get 0=some (.cells true [.gs a s.names.length 1,.gs b s.consts.length 3,.mp 2,x])) (g1:H.get 1=some (.cells true [.ptr 0 0,.gs c s.l.length 3,iV s.fixed,iV s.depth,iV s.most])) (g3:H.get a=some (.opt (nmR s.names))) (g4:H.get b=some (.opt (Yy s.consts))) (g5:H.get c=some (.opt (Xn s.l))) (hn:H.next=n) (hb:Nm3 a b c n) :
  Qc Tryz.prog 43 [.ptr 0 0,Qn t] H (fun v K=>v=iV (Xz t s).1∧K=⟨mkO n (n+1) (n+2) (Xz t s).2 x++Qs [0,1,a,b,c] H.objs,n+3⟩) :=
 MkC.at hb hx (Qb _) (marg_p (nl1 (Qj t))) (placeS_call s t (hd.mono (by omega))) g0 g1 g3 g4 g5 hn
theorem placeVAt (t:Cst) (hd:Bd s 900000) (hx:Qd x) (g0:H.get 0=some (.cells true [.gs a s.names.length 1,.gs b s.consts.length 3,.mp 2,x])) (g1:H.get 1=some (.cells true [.ptr 0 0,.gs c s.l.length 3,iV s.fixed,iV s.depth,iV s.most])) (g3:H.get a=some (.opt (nmR s.names))) (g4:H.get b=some (.opt (Yy s.consts))) (g5:H.get c=some (.opt (Xn s.l))) (hn:H.next=n) (hb:Nm3 a b c n) :
  Qc Tryz.prog 78 [.ptr 0 1,.ag [iV t.kind,iV t.num,Qn t.text]] H (fun v K=>v=iV (Kq t s).1∧K=⟨mkO n (n+1) (n+2) (Kq t s).2 x++Qs [0,1,a,b,c] H.objs,n+3⟩) :=
 MkC.at hb hx (Qb _) (marg_p (nl1 (Jz (Nt t)))) (placeV_call s t (hd.mono (by omega))) g0 g1 g3 g4 g5 hn
theorem hereAt (hx:Qd x) (g0:H.get 0=some (.cells true [.gs a s.names.length 1,.gs b s.consts.length 3,.mp 2,x])) (g1:H.get 1=some (.cells true [.ptr 0 0,.gs c s.l.length 3,iV s.fixed,iV s.depth,iV s.most])) (g3:H.get a=some (.opt (nmR s.names))) (g4:H.get b=some (.opt (Yy s.consts))) (g5:H.get c=some (.opt (Xn s.l))) (hn:H.next=n) (hb:Nm3 a b c n) :
  Qc Tryz.prog 115 [.ptr 1 0] H (fun v K=>v=iV s.l.length∧K=⟨mkO n (n+1) (n+2) (Z9 s) x++Qs [0,1,a,b,c] H.objs,n+3⟩) :=
 MkC.at hb hx (Qb _) (Da (by simp)) (here_call s) g0 g1 g3 g4 g5 hn
theorem leadAt (i:Nat) (hi:i < s.l.length) (hd:Bd s 900000) (hx:Qd x) (g0:H.get 0=some (.cells true [.gs a s.names.length 1,.gs b s.consts.length 3,.mp 2,x])) (g1:H.get 1=some (.cells true [.ptr 0 0,.gs c s.l.length 3,iV s.fixed,iV s.depth,iV s.most])) (g3:H.get a=some (.opt (nmR s.names))) (g4:H.get b=some (.opt (Yy s.consts))) (g5:H.get c=some (.opt (Xn s.l))) (hn:H.next=n) (hb:Nm3 a b c n) :
  Qc Tryz.prog 117 [.ptr 1 0,iV i] H (fun v K=>v= .tp []∧K=⟨mkO n (n+1) (n+2) (Ye i s) x++Qs [0,1,a,b,c] H.objs,n+3⟩) :=
 MkC.at hb hx (Qt (by simp)) (Da (nl1 (Qb _))) (lead_call s i hi hd.l) g0 g1 g3 g4 g5 hn
end
mutual
theorem Zg: ∀ (n:Nd) (s:MkS) (k:Nat),Bd s k→Bd (exprM n s) (k+10*cntN n - 1)
 | .mk op tx nm ks,s,k,h=>by
  have h1:=exprL_bd ks _ _ (h.put 0 1 [] 0 (j:=k+1) (by omega) (by omega) (by omega) (by omega) (by omega))
  have hlen:=X2 ks
  rw [exprM,cntN]
  generalize exprL ks (Qv 0 1 [] 0 s).2=m1 at *
  split
  ·obtain ⟨h2,h3⟩:=h1.name tx
   exact h2.put _ _ _ _ (by omega) (by omega) (by omega) (by omega) (by omega)
  split
  ·exact h1.put _ _ _ _ (by omega) (by omega) (by omega) (by omega) (by omega)
  split
  ·exact h1.put _ _ _ _ (by omega) (by omega) (by omega) (by omega) (by omega)
  split
  ·exact h1.put _ _ _ _ (by omega) (by omega) (by omega) (by omega) (by omega)
  ·obtain ⟨h2,h3⟩:=h1.cst ((cstN (.mk op tx nm ks)).getD ⟨0,0,[]⟩)
   exact h2.put _ _ _ _ (by omega) (by omega) (by omega) (by omega) (by omega)
theorem exprL_bd: ∀ (l:List Nd) (s:MkS) (k:Nat),Bd s k→Bd (exprL l s) (k+10*cntL l - l.length)
 | [],s,k,h=>by rw [exprL,cntL];exact h.mono (by simp)
 | n::r,s,k,h=>by
  have hlen:=X2 r
  have:=Xj n
  rw [exprL,cntL,List.length_cons]
  exact (exprL_bd r _ _ (Zg n s k h)).mono (by omega)
end
theorem U3: ∀ (l:List Nd) (i:Nat),cntL (l.drop i)≤cntL l
 | [],i=>by simp
 | x::r,0=>by simp
 | x::r,i+1=>by
  rw [List.drop_succ_cons,cntL]
  have:=U3 r i
  omega
theorem expr_call: ∀ (f:Nat) (n:Nd) (s:MkS) (k:Nat),cntN n≤f→Bd s k→k+10*cntN n≤900000→MkC 116 [.ptr 1 0,nV n] s (.tp []) (exprM n s)
 | 0,n,s,k,hf,_,_=>absurd (Xj n) (by omega)
 | f+1,.mk op tx nm ks,s,k,hf,hs,hk=>by
  have ih:=expr_call f
  refine MkC.of (Qt (by simp)) fun x hx=> ?_
  have hlen:=X2 ks
  rw [cntN] at hf hk
  have hb1:=hs.put 0 1 [] 0 (j:=k+1) (by omega) (by omega) (by omega) (by omega) (by omega)
  have hp1:=fun H a b c n=>Kf (s:=s) (x:=x) (H:=H) (a:=a) (b:=b) (c:=c) (n:=n) 0 1 [] 0 (hs.mono (by omega)) (by omega) (by omega) (by omega) hx
  have hbL:=exprL_bd ks _ _ hb1
  rw [exprM]
  generalize hm0:(Qv 0 1 [] 0 s).2=m0 at *
  generalize hm1:exprL ks m0=m1 at *
  have hk0:True:=trivial
  rw [nV,cellsN]
  refine Qc.go Tryz.func116 rfl ?_
  have hk:=hk0
  (repeat' (first|with_reducible refine And.intro ?_ ?_|(with_reducible intro hc;(try simp only [zz] at hc);try exact ct)|((conv=>whnf);first|(with_reducible first|refine And.intro ?_ ?_|intro hx|apply Val.via|apply Qk.via)|exact Is.mk rfl rfl|refine sp ?_|refine vx (by (first|exact Ql rfl rfl|exact Qm hk rfl|exact Qa rfl rfl rfl|rfl)) ?_|refine cl (hp1 _ 3 4 5 7 rfl rfl rfl rfl rfl rfl (Nm3.mk (by decide))) ?_|refine sq ?_)))
  (all_goals try exact om)
  (refine Ju.mk (GWP.loopB [0,1,7,8,9] (fun (a:Nat×MkS×Nat)=>a.1≤ks.length∧exprL (ks.drop a.1) a.2.1=m1∧Bd a.2.1 a.2.2∧a.2.2+10*cntL (ks.drop a.1)≤k+1+10*cntL ks) (fun a=> [(13,iV a.1)]) (fun a=>mkO 10 11 12 a.2.1 x) 13 (fun a=>ks.length - a.1) (0,m0,k+1) ⟨Nat.zero_le _,hm1,hb1,Nat.le_refl _⟩ ?_);(conv=>whnf);refine And.intro ?_ ?_)
  ·focus (refine ka [(7,10),(8,11),(9,12)] ?_ ?_;all_goals (repeat' (first|exact rz|refine And.intro ?_ ?_|refine Exists.intro _ (And.intro rfl ?_)|refine ro ?_|refine Qe.cons ?_ ?_|(first|exact Qi.mpL (Nat.le_of_ble_eq_true rfl)|exact Qi.ptrL (Nat.le_of_ble_eq_true rfl)|exact Qi.eq (Q9 (by omega)) (Qb _)|exact Qe.of (Jb _)|exact Qe.of (Jg _)|exact Qe.of (Yx _)|exact Qi.of hx)|exact rv)))
  rintro ⟨i,st,j⟩ ⟨g1,g2,g3,g4⟩
  simp only at g1 g2 g3 g4 ⊢
  by_cases hil:i < ks.length
  ·clear hk
   obtain ⟨kd,hk⟩:=Z4 hil
   rw [Ky hk,cntL] at g4
   rw [Ky hk,exprL] at g2
   have ik:=fun H a b c n=>fun p0 p1 p3 p4 p5 p6 hd=>MkC.at (x:=x) (H:=H) (a:=a) (b:=b) (c:=c) (n:=n) hd hx (Qt (by simp)) (Da (nl1 (Q0 kd))) (ih kd st j (by have:=Ky hk;have hq:cntL (ks.drop i)≤cntL ks:=U3 ks i;rw [this,cntL] at hq;omega) g3 (by omega)) p0 p1 p3 p4 p5 p6
   have hbk:=Zg kd st j g3
   have hcp:=Xj kd
   generalize exprM kd st=st2 at *
   obtain ⟨op2,tx2,nm2,kk2⟩:=kd
   simp only [nV,cellsN] at ik
   (repeat' (first|with_reducible refine And.intro ?_ ?_|(with_reducible intro hc;(try simp only [zz] at hc);try exact ct)|((conv=>whnf);first|(with_reducible first|refine And.intro ?_ ?_|intro hx|apply Val.via|apply Qk.via)|exact Is.mk rfl rfl|refine sp ?_|refine vx (by (first|exact Ql rfl rfl|exact Qm hk rfl|exact Qa rfl rfl rfl|rfl)) ?_|refine dY ?_|refine cl (ik _ 10 11 12 14 rfl rfl rfl rfl rfl rfl (Nm3.mk (by decide))) ?_|refine sq ?_)))
   (all_goals try exact om)
   focus (refine Qg.mk ⟨(i+1,st2,j+10*cntN (.mk op2 tx2 nm2 kk2) - 1),⟨by omega,g2,hbk,by simp only;omega⟩,?_,ka [(14,10),(15,11),(16,12)] ?_ ?_⟩;(first|omega|(simp only;omega));all_goals (repeat' (first|exact rz|refine And.intro ?_ ?_|refine Exists.intro _ (And.intro rfl ?_)|refine ro ?_|refine Qe.cons ?_ ?_|(first|exact Qi.mpL (Nat.le_of_ble_eq_true rfl)|exact Qi.ptrL (Nat.le_of_ble_eq_true rfl)|exact Qi.eq (Q9 (by omega)) (Qb _)|exact Qe.of (Jb _)|exact Qe.of (Jg _)|exact Qe.of (Yx _)|exact Qi.of hx)|exact rv)))
  ·obtain rfl:i=ks.length:=by omega
   rw [List.drop_length,exprL] at g2
   subst g2
   have hst:Bd st (k+1+10*cntL ks):=g3.mono (by omega)
   by_cases h11:op=11
   ·subst h11
    rw [if_pos rfl]
    have hbn:=hst.name tx
    have hpn:=fun H a b c n=>placeSAt (s:=st) (x:=x) (H:=H) (a:=a) (b:=b) (c:=c) (n:=n) tx (hst.mono (by omega)) hx
    generalize Xz tx st=q at *
    obtain ⟨i,s2⟩:=q
    simp only at hbn hpn ⊢
    obtain ⟨hb2,hi2⟩:=hbn
    have hpp:=fun H a b c n=>Kf (s:=s2) (x:=x) (H:=H) (a:=a) (b:=b) (c:=c) (n:=n) 2 i [] 1 (hb2.mono (by omega)) (by omega) (by omega) (by omega) hx
    generalize (Qv 2 i [] 1 s2)=q3 at *
    (repeat' (first|with_reducible refine And.intro ?_ ?_|(with_reducible intro hc;(try simp only [zz] at hc);try exact ct)|((conv=>whnf);first|(with_reducible first|refine And.intro ?_ ?_|intro hx|apply Val.via|apply Qk.via)|exact Is.mk rfl rfl|refine sp ?_|refine vx (by (first|exact Ql rfl rfl|exact Qm hk rfl|exact Qa rfl rfl rfl|rfl)) ?_|fail|refine sq ?_)))
    (all_goals try exact om)
    refine Ju.mk (GWP.drawM mixed 76 [9,10] (fun H=> [(⟨mkO H.next (H.next+1) (H.next+2) (s2) x++Qs [0,1,10,11,12] H.objs,H.next+3⟩:Heap),⟨mkO 16 17 18 q3.2 x++Qs [0,1,13,14,15] ((⟨mkO H.next (H.next+1) (H.next+2) (s2) x++Qs [0,1,10,11,12] H.objs,H.next+3⟩:Heap)).objs,19⟩]) (by kernel_rfl) (by rfl) ?_)
    repeat' (first|with_reducible refine And.intro ?_ ?_|(with_reducible intro hc;(try simp only [zz] at hc);try exact ct)|exact trivial|((conv=>whnf);first|with_reducible refine And.intro ?_ ?_|with_reducible intro hx|exact Is.mk rfl rfl|exact trivial|(with_reducible first|apply Val.via|apply Qk.via)|fail|refine sp ?_|refine vx (by (first|exact Ql rfl rfl|exact Qm hk rfl|exact Qa rfl rfl rfl|rfl)) ?_|(first|refine cl (hpn _ 10 11 12 13 rfl rfl rfl rfl rfl rfl (Nm3.mk (by decide))) ?_|refine cl (hpp _ 13 14 15 16 rfl rfl rfl rfl rfl rfl (Nm3.mk (by decide))) ?_)|refine sq ?_))
    (all_goals try exact om)
    exact Qg.mk ⟨rfl,16,17,18,rfl,(by repeat' (first|exact trivial|refine And.intro rfl ?_))⟩
   by_cases h13:op=13
   ·subst h13
    rw [if_neg (by decide),if_pos rfl]
    have hpp:=fun H a b c n=>Kf (s:=st) (x:=x) (H:=H) (a:=a) (b:=b) (c:=c) (n:=n) 5 0 tx (-1) (hst.mono (by omega)) (by omega) (by omega) (by omega) hx
    generalize (Qv 5 0 tx (-1) st)=q3 at *
    (repeat' (first|with_reducible refine And.intro ?_ ?_|(with_reducible intro hc;(try simp only [zz] at hc);try exact ct)|((conv=>whnf);first|(with_reducible first|refine And.intro ?_ ?_|intro hx|apply Val.via|apply Qk.via)|exact Is.mk rfl rfl|refine sp ?_|refine vx (by (first|exact Ql rfl rfl|exact Qm hk rfl|exact Qa rfl rfl rfl|rfl)) ?_|refine dY ?_|refine cl (hpp _ 10 11 12 13 rfl rfl rfl rfl rfl rfl (Nm3.mk (by decide))) ?_|refine sq ?_)))
    (all_goals try exact om)
    all_goals exact Qg.mk ⟨rfl,13,14,15,rfl,(by repeat' (first|exact trivial|refine And.intro rfl ?_))⟩
   by_cases h14:op=14
   ·subst h14
    rw [if_neg (by decide),if_neg (by decide),if_pos rfl]
    have hpp:=fun H a b c n=>Kf (s:=st) (x:=x) (H:=H) (a:=a) (b:=b) (c:=c) (n:=n) 6 0 tx 0 (hst.mono (by omega)) (by omega) (by omega) (by omega) hx
    generalize (Qv 6 0 tx 0 st)=q3 at *
    (repeat' (first|with_reducible refine And.intro ?_ ?_|(with_reducible intro hc;(try simp only [zz] at hc);try exact ct)|((conv=>whnf);first|(with_reducible first|refine And.intro ?_ ?_|intro hx|apply Val.via|apply Qk.via)|exact Is.mk rfl rfl|refine sp ?_|refine vx (by (first|exact Ql rfl rfl|exact Qm hk rfl|exact Qa rfl rfl rfl|rfl)) ?_|refine dY ?_|refine cl (hpp _ 10 11 12 13 rfl rfl rfl rfl rfl rfl (Nm3.mk (by decide))) ?_|refine sq ?_)))
    (all_goals try exact om)
    all_goals exact Qg.mk ⟨rfl,13,14,15,rfl,(by repeat' (first|exact trivial|refine And.intro rfl ?_))⟩
   by_cases h12:op=12
   ·subst h12
    rw [if_neg (by decide),if_neg (by decide),if_neg (by decide),if_pos rfl]
    have hpp:=fun H a b c n=>Kf (s:=st) (x:=x) (H:=H) (a:=a) (b:=b) (c:=c) (n:=n) 7 ks.length tx (1 - ks.length) (hst.mono (by omega)) (by omega) (by omega) (by omega) hx
    generalize (Qv 7 ks.length tx (1 - ks.length) st)=q3 at *
    (repeat' (first|with_reducible refine And.intro ?_ ?_|(with_reducible intro hc;(try simp only [zz] at hc);try exact ct)|((conv=>whnf);first|(with_reducible first|refine And.intro ?_ ?_|intro hx|apply Val.via|apply Qk.via)|exact Is.mk rfl rfl|refine sp ?_|refine vx (by (first|exact Ql rfl rfl|exact Qm hk rfl|exact Qa rfl rfl rfl|rfl)) ?_|refine dY ?_|refine cl (hpp _ 10 11 12 13 rfl rfl rfl rfl rfl rfl (Nm3.mk (by decide))) ?_|refine sq ?_)))
    (all_goals try exact om)
    all_goals exact Qg.mk ⟨rfl,13,14,15,rfl,(by repeat' (first|exact trivial|refine And.intro rfl ?_))⟩
   rw [if_neg h11,if_neg h13,if_neg h14,if_neg h12]
   have hcc:=fun H=>Cz (.mk op tx nm ks) H
   rw [nV,cellsN] at hcc
   generalize (cstN (.mk op tx nm ks)).getD ⟨0,0,[]⟩=v at *
   generalize (cstN (.mk op tx nm ks)).isSome=bs at *
   simp only [cstC] at hcc
   have hbn:=hst.cst v
   have hpn:=fun H a b c n=>placeVAt (s:=st) (x:=x) (H:=H) (a:=a) (b:=b) (c:=c) (n:=n) v (hst.mono (by omega)) hx
   generalize Kq v st=q at *
   obtain ⟨i,s2⟩:=q
   simp only at hbn hpn ⊢
   obtain ⟨hb2,hi2⟩:=hbn
   have hpp:=fun H a b c n=>Kf (s:=s2) (x:=x) (H:=H) (a:=a) (b:=b) (c:=c) (n:=n) 1 i [] 1 (hb2.mono (by omega)) (by omega) (by omega) (by omega) hx
   generalize (Qv 1 i [] 1 s2)=q3 at *
   (repeat' (first|with_reducible refine And.intro ?_ ?_|(with_reducible intro hc;(try simp only [zz] at hc);try exact ct)|((conv=>whnf);first|(with_reducible first|refine And.intro ?_ ?_|intro hx|apply Val.via|apply Qk.via)|exact Is.mk rfl rfl|refine sp ?_|refine vx (by (first|exact Ql rfl rfl|exact Qm hk rfl|exact Qa rfl rfl rfl|rfl)) ?_|refine cl (hcc _) ?_|refine sq ?_)))
   (all_goals try exact om)
   refine Ju.mk (GWP.drawM mixed 76 [8,9] (fun H=> [(⟨mkO H.next (H.next+1) (H.next+2) (s2) x++Qs [0,1,10,11,12] H.objs,H.next+3⟩:Heap),⟨mkO 17 18 19 q3.2 x++Qs [0,1,14,15,16] ((⟨mkO H.next (H.next+1) (H.next+2) (s2) x++Qs [0,1,10,11,12] H.objs,H.next+3⟩:Heap)).objs,20⟩]) (by kernel_rfl) (by rfl) ?_)
   repeat' (first|with_reducible refine And.intro ?_ ?_|(with_reducible intro hc;(try simp only [zz] at hc);try exact ct)|exact trivial|((conv=>whnf);first|with_reducible refine And.intro ?_ ?_|with_reducible intro hx|exact Is.mk rfl rfl|exact trivial|(with_reducible first|apply Val.via|apply Qk.via)|fail|refine sp ?_|refine vx (by (first|exact Ql rfl rfl|exact Qm hk rfl|exact Qa rfl rfl rfl|rfl)) ?_|(first|refine cl (hpn _ 10 11 12 14 rfl rfl rfl rfl rfl rfl (Nm3.mk (by decide))) ?_|refine cl (hpp _ 14 15 16 17 rfl rfl rfl rfl rfl rfl (Nm3.mk (by decide))) ?_)|refine sq ?_))
   (all_goals try exact om)
   exact Qg.mk ⟨rfl,17,18,19,rfl,(by repeat' (first|exact trivial|refine And.intro rfl ?_))⟩
end Go.Proofs.YtpbiblhkcomekaaGreat
