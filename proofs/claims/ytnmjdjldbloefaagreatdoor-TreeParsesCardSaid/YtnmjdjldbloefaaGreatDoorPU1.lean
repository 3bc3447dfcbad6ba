import Derived.Test.YtnmjdjldbloefaaGreatDoorPH1
import Derived.Test.YtnmjdjldbloefaaGreatDoorPE5
import Derived.Test.YtnmjdjldbloefaaGreatDoorPH0
/- A tree's walk in plain words: how many nodes, which one behind which. -/
namespace Go.Proofs.YtnmjdjldbloefaaGreatDoor
set_option linter.unusedSimpArgs false
set_option linter.unusedVariables false
mutual
def cntN:Nd→Nat
 | .mk _ _ _ ks=>1+cntL ks
def cntL:List Nd→Nat
 | []=>0
 | k::r=>cntN k+cntL r
end
theorem Bf: ∀ n,1≤cntN n
 | .mk o t m ks=>by rw [cntN];omega
theorem dropN_at {α:Type} {l:List α} {i:Nat} {x:α} (h:l[i]? = some x):l.drop i=x::l.drop (i+1):=by
 obtain ⟨hi,e⟩:=List.getElem?_eq_some_iff.1 h
 rw [List.drop_eq_getElem_cons hi,e]
theorem Zf: ∀ l:List Nd,l.length≤cntL l
 | []=>Nat.zero_le _
 | k::r=>by
  have h1:=Bf k
  have h2:=Zf r
  rw [cntL,List.length_cons]
  omega
open Go Go.RowKit
set_option maxRecDepth 100000
set_option maxHeartbeats 8000000
def Cx (rd:PSt→Nd×PSt):Prop:= ∀ s,cntN (rd s).1+4*(rd s).2.l.length≤4*s.l.length+3
theorem Wr {x:List UInt8} {s:PSt} (h:(isS x s).1=true):(isS x s).2.l.length+1=s.l.length:=by
 obtain ⟨l,d,e⟩:=s
 cases l with
 | nil=>simp [isS] at h
 | cons q r =>
  obtain ⟨g,a⟩:=q
  unfold isS at h ⊢
  simp only at h ⊢
  split at h
  ·rename_i hc
   rw [if_pos hc]
   rfl
  ·cases h
theorem Di (x:List UInt8) (s:PSt):(isS x s).2.l.length≤s.l.length:=by
 cases h:(isS x s).1 with
 | true=>have:=Wr h;omega
 | false=>rw [Zz h];exact Nat.le_refl _
theorem Fd (e:Nat) (s:PSt):(Yt e s).l=s.l:=by unfold Yt;split <;> rfl
theorem Nz (x:List UInt8) (s:PSt):(Q5 x s).l.length≤s.l.length:=by
 unfold Q5
 split
 ·exact Di x s
 ·rw [Fd];exact Nat.le_refl _
theorem Ui (l:List Nd) (n:Nd):cntL (l++ [n])=cntL l+cntN n:=by
 induction l with
 | nil=>simp [cntL]
 | cons k r ih=>rw [List.cons_append,cntL,cntL,ih];omega
theorem Fi {rd:PSt→Nd×PSt} (h:Cx rd):Cx (Jq rd):=fun s=>by
 unfold Jq
 have hl:(Kw s).l=s.l:=by unfold Kw;split;exact Fd 9 s;rfl
 split
 ·rw [hl];simp [nd0,cntN,cntL];omega
 ·exact h ⟨s.l,s.d+1,s.e⟩
theorem mustS_cut {x:List UInt8} {s:PSt}:(Q5 x s).l.length+1=s.l.length∨((Q5 x s).l.length=s.l.length∧(Q5 x s).e≠0):=by
 unfold Q5
 split
 ·rename_i h;exact .inl (Wr h)
 ·right
  rw [Fd]
  refine ⟨rfl,?_⟩
  unfold Yt
  split
  ·exact (by decide:(2:Nat)≠0)
  ·assumption
theorem lsLoop_cx {rd:PSt→Nd×PSt} (h:Cx rd): ∀ (f:Nat) (out:List Nd) (s:PSt),cntL (J4 rd f out s).1+4*(J4 rd f out s).2.l.length≤cntL out+4*s.l.length+(if s.e=0 then 3 else 0)
 | 0,out,s=>by rw [J4];simp only;omega
 | f+1,out,s=>by
  rw [J4]
  have h1:=h s
  by_cases he:s.e=0
  ·rw [if_pos he,if_pos he]
   split
   ·rename_i hc
    have:=Wr hc
    simp only [Ui]
    omega
   ·have h2:=lsLoop_cx h f (out++ [(rd s).1]) (Q5 [44] (rd s).2)
    rw [Ui] at h2
    rcases mustS_cut (x:= [44]) (s:=(rd s).2) with h3|⟨h3,h4⟩
    ·split at h2 <;> omega
    ·rw [if_neg h4] at h2
     omega
  ·rw [if_neg he,if_neg he]
   simp only;omega
theorem listS_cx {rd:PSt→Nd×PSt} (h:Cx rd) (s:PSt):cntL (Xt rd s).1+4*(Xt rd s).2.l.length≤4*s.l.length+3:=by
 unfold Xt
 split
 ·have:=Di [41] s
  simp only [cntL];omega
 ·have:=lsLoop_cx h (s.l.length+2) [] s
  simp only [cntL] at this
  split at this <;> omega
theorem opS_cut: ∀ (L:List (List UInt8)) (s:PSt),match opS L s with
  | (some _,s')=>s'.l.length+1=s.l.length
  | (none,s')=>s'=s
 | [],s=>rfl
 | x::r,s=>by
  rw [opS]
  by_cases h:(isS x s).1=true
  ·rw [if_pos h];exact Wr h
  ·rw [if_neg h];exact opS_cut r s
theorem takeS_cut (k:Nat) (s:PSt):match Xv k s with
  | (some _,s')=>s'.l.length+1=s.l.length
  | (none,s')=>s'=s:=by
 obtain ⟨l,d,e⟩:=s
 cases l with
 | nil=>rfl
 | cons q r =>
  obtain ⟨g,a⟩:=q
  unfold Xv
  simp only
  by_cases h:e=0∧g.kind=k
  ·rw [if_pos h];rfl
  ·rw [if_neg h]
theorem nmS_len (s:PSt):(nmS s).2.l.length≤s.l.length:=by
 have h:=takeS_cut 1 s
 unfold nmS
 generalize Xv 1 s=q at *
 obtain ⟨a,s'⟩:=q
 cases a with
 | none=>simp only at h ⊢;subst h;rw [Fd];exact Nat.le_refl _
 | some g=>obtain ⟨g,b⟩:=g;simp only at h ⊢;omega
theorem lvLoop_cx {nx:PSt→Nd×PSt} (h:Cx nx) (i:Nat): ∀ (f:Nat) (out:Nd) (s:PSt),cntN (Xh i nx f out s).1+4*(Xh i nx f out s).2.l.length≤cntN out+4*s.l.length
 | 0,out,s=>by rw [Xh];exact Nat.le_refl _
 | f+1,out,s=>by
  rw [Xh]
  have h1:=opS_cut (opL i) s
  generalize opS (opL i) s=q at *
  obtain ⟨a,s1⟩:=q
  cases a with
  | none=>simp only at h1 ⊢;subst h1;exact Nat.le_refl _
  | some x =>
   simp only at h1 ⊢
   have h2:=h s1
   have hc:cntN (.mk 13 x 0 [out,(nx s1).1])=1+(cntN out+(cntN (nx s1).1+0)):=by rw [cntN,cntL,cntL,cntL]
   split
   ·simp only;omega
   ·have h3:=lvLoop_cx h i f (.mk 13 x 0 [out,(nx s1).1]) (nx s1).2
    omega
theorem E7 {un:PSt→Nd×PSt} (h:Cx un): ∀ k,Cx (Jz un k)
 | 0=>h
 | k+1=>fun s=>by
  rw [Jz]
  have h1:=E7 h k s
  have h2:=lvLoop_cx (E7 h k) (4 - k) ((Jz un k s).2.l.length+1) (Jz un k s).1 (Jz un k s).2
  omega
theorem primS_cx {un:PSt→Nd×PSt} (h:Cx un):Cx (Wc un):=fun s=>by
 unfold Wc
 have h1:=takeS_cut 3 s
 generalize Xv 3 s=q at *
 obtain ⟨a,s1⟩:=q
 cases a with
 | some g=>obtain ⟨g,b⟩:=g;simp only [cntN,cntL] at h1 ⊢;omega
 | none =>
  simp only
  have h2:=takeS_cut 4 s
  generalize Xv 4 s=q at *
  obtain ⟨a,s2⟩:=q
  cases a with
  | some g=>obtain ⟨g,b⟩:=g;simp only [cntN,cntL] at h2 ⊢;omega
  | none =>
   simp only
   split
   ·have:=Di [110,105,108] s
    simp only [cntN,cntL];omega
   ·split
    ·rename_i hc
     have h3:=Wr hc
     have h4:=Fi (E7 h 5) (isS [40] s).2
     have h5:=Nz [41] (Jq (Jz un 5) (isS [40] s).2).2
     simp only;omega
    ·have h3:=nmS_len s
     split
     ·rename_i hc
      have h4:=Wr hc
      have h5:=listS_cx (Fi (E7 h 5)) (isS [40] (nmS s).2).2
      simp only [cntN];omega
     ·simp only [cntN,cntL];omega
theorem unS_cx: ∀ n,Cx (unS n)
 | 0=>fun s=>by rw [unS];simp [nd0,cntN,cntL];omega
 | n+1=>fun s=>by
  rw [unS]
  split
  ·rename_i hc
   have h1:=Wr hc
   have h2:=Fi (unS_cx n) (isS [110,111,116] s).2
   simp only [cntN,cntL];omega
  ·split
   ·rename_i hc
    have h1:=Wr hc
    have h2:=Fi (unS_cx n) (isS [45] s).2
    simp only [cntN,cntL];omega
   ·exact primS_cx (unS_cx n) s
theorem exS_cx:Cx exS:=fun s=>E7 (unS_cx _) 5 s
def Sx (st:PSt→Nd×PSt):Prop:= ∀ s,cntN (st s).1+8*(st s).2.l.length≤8*s.l.length+(if (st s).2.e=0 then 0 else 8)
def Bx (bl:PSt→Nd×PSt):Prop:= ∀ s,cntN (bl s).1+8*(bl s).2.l.length≤8*s.l.length+1
theorem cntN_ge: ∀ n,1≤cntN n
 | .mk o t m ks=>by rw [cntN];omega
theorem Cx.len {rd:PSt→Nd×PSt} (h:Cx rd) (s:PSt):(rd s).2.l.length≤s.l.length:=by
 have h1:=h s
 have h2:=cntN_ge (rd s).1
 omega
theorem stLoop_er (st:PSt→Nd×PSt) {s:PSt} (he: ¬ s.e=0): ∀ (f:Nat) (out:List Nd),Xf st f out s=(out,s)
 | 0,out=>rfl
 | f+1,out=>by rw [Xf,if_neg he]
theorem stLoop_sx {st:PSt→Nd×PSt} (h:Sx st): ∀ (f:Nat) (out:List Nd) (s:PSt),cntL (Xf st f out s).1+8*(Xf st f out s).2.l.length≤cntL out+8*s.l.length+8
 | 0,out,s=>by rw [Xf];simp only;omega
 | f+1,out,s=>by
  rw [Xf]
  by_cases he:s.e=0
  ·rw [if_pos he]
   split
   ·have:=Di [125] s
    simp only;omega
   ·have h1:=h s
    by_cases h2:(st s).2.e=0
    ·rw [if_pos h2] at h1
     have h3:=stLoop_sx h f (out++ [(st s).1]) (st s).2
     rw [Ui] at h3
     omega
    ·rw [if_neg h2] at h1
     rw [stLoop_er st h2]
     simp only [Ui]
     omega
  ·rw [if_neg he]
   simp only;omega
theorem blockS_bx {st:PSt→Nd×PSt} (h:Sx st):Bx (B6 st):=fun s=>by
 unfold B6 Jq
 have hl: ∀ s,(Kw s).l=s.l:=fun s=>by unfold Kw;split;exact Fd 9 s;rfl
 have hm:=Nz [123] s
 split
 ·rw [hl];simp only [nd0,cntN,cntL];omega
 ·rename_i hd
  rcases mustS_cut (x:= [123]) (s:=s) with h3|⟨h3,h4⟩
  ·have h5:=stLoop_sx h ((Q5 [123] s).l.length+2) [] ⟨(Q5 [123] s).l,(Q5 [123] s).d+1,(Q5 [123] s).e⟩
   simp only [cntL,cntN] at h5 ⊢
   omega
  ·exfalso
   apply hd
   unfold Kw
   split
   ·unfold Yt;rw [if_neg h4];exact h4
   ·exact h4
theorem stmtS_sx {bl:PSt→Nd×PSt} (h:Bx bl):Sx (Zr bl):=fun s=>by
 have hx:=fun s=>exS_cx s
 have hxl:=fun s=>Cx.len exS_cx s
 have done: ∀ {n:Nd} {s':PSt},cntN n+8*s'.l.length≤8*s.l.length→cntN n+8*s'.l.length≤8*s.l.length+(if s'.e=0 then 0 else 8):=fun h=>Nat.le_trans h (Nat.le_add_right _ _)
 have done2: ∀ {n:Nd} {s1:PSt},cntN n+8*s1.l.length≤8*s.l.length+8→cntN n+8*(Q5 [59] s1).l.length≤8*s.l.length+(if (Q5 [59] s1).e=0 then 0 else 8):=fun {n s1} h=>by
  rcases mustS_cut (x:= [59]) (s:=s1) with h3|⟨h3,h4⟩
  ·split <;> omega
  ·rw [if_neg h4,h3];exact h
 unfold Zr
 split
 ·rename_i hc
  have h0:=Wr hc
  generalize (isS [105,102] s).2=s0 at *
  refine done ?_
  unfold ifS
  have h1:=hx s0
  have h1':=hxl s0
  have h2:=h (exS s0).2
  have h3:=Di [101,108,115,101] (bl (exS s0).2).2
  have h4:=h (isS [101,108,115,101] (bl (exS s0).2).2).2
  split
  ·simp only [cntN,cntL];omega
  ·simp only [cntN,cntL];omega
 ·split
  ·rename_i hc
   have h0:=Wr hc
   generalize (isS [119,104,105,108,101] s).2=s0 at *
   refine done ?_
   have h1:=hx s0
   have h1':=hxl s0
   have h2:=h (exS s0).2
   simp only [cntN,cntL];omega
  ·split
   ·have h0:=Di [115,116,111,112] s
    refine done2 ?_
    simp only [cntN,cntL];omega
   ·split
    ·have h0:=nmS_len s
     have h1:=Nz [61] (nmS s).2
     have h2:=hx (Q5 [61] (nmS s).2)
     have h2':=hxl (Q5 [61] (nmS s).2)
     refine done2 ?_
     simp only [cntN,cntL];omega
    ·have h2:=hx s
     have h2':=hxl s
     refine done2 ?_
     simp only [cntN,cntL];omega
theorem blS_bx: ∀ n,Bx (blS n)
 | 0=>fun s=>by rw [blS];simp only [nd0,cntN,cntL];omega
 | n+1=>blockS_bx (stmtS_sx (blS_bx n))
theorem varS_cx:Cx varS:=fun s=>by
 have:=nmS_len s
 unfold varS
 simp only [cntN,cntL];omega
theorem onS_cnt (s:PSt):cntN (onS s).1+8*(onS s).2.l.length≤8*s.l.length+5:=by
 unfold onS
 simp only
 have h1:=Nz [111,110] s
 generalize Q5 [111,110] s=s1 at *
 have h2:=nmS_len s1
 generalize (nmS s1).2=s2 at *
 have h3:=Nz [40] s2
 generalize Q5 [40] s2=s3 at *
 have h4:=listS_cx varS_cx s3
 have h6:=blS_bx ((Xt varS s3).2.l.length+1) (Xt varS s3).2
 rw [cntN,Ui]
 have h5:(Xt varS s3).2.l.length≤s3.l.length:=by omega
 omega
theorem scLoop_cnt: ∀ (f:Nat) (out:List Nd) (s:PSt),cntL (scLoop f out s).1+8*(scLoop f out s).2.l.length≤cntL out+8*s.l.length+5*f
 | 0,out,s=>by rw [scLoop];exact Nat.le_refl _
 | f+1,out,s=>by
  rw [scLoop]
  split
  ·have h1:=onS_cnt s
   have h2:=scLoop_cnt f (out++ [(onS s).1]) (onS s).2
   rw [Ui] at h2
   omega
  ·simp only;omega
theorem scriptS_cnt (s:PSt):cntN (Xy s).1≤13*s.l.length+11:=by
 unfold Xy
 have h:=scLoop_cnt (s.l.length+2) [] s
 simp only [cntN,cntL] at h ⊢
 omega
theorem parseT_cnt (t:List UInt8):cntN (Ym t).1≤14000:=by
 have h0:cntN nd0≤14000:=by simp only [nd0,cntN,cntL];omega
 unfold Ym
 cases hS:Yi t with
 | inl e=>exact h0
 | inr l =>
  have hl:=(Nt hS).2
  have h:=scriptS_cnt ⟨l,0,0⟩
  simp only at h ⊢
  split
  ·exact h0
  ·split
   ·exact h0
   ·show cntN (Xy ⟨l,0,0⟩).1≤14000
    omega
end Go.Proofs.YtnmjdjldbloefaaGreatDoor
