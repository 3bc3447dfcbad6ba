import Derived.Test.YtpbiblhkcomekaaGreatBH1
import Derived.Test.YtpbiblhkcomekaaGreatBE5
import Derived.Test.YtpbiblhkcomekaaGreatBH6
/- A tree's walk in plain words: how many nodes, which one behind which. -/
namespace Go.Proofs.YtpbiblhkcomekaaGreat
set_option linter.unusedSimpArgs false
set_option linter.unusedVariables false
mutual
def cntN:Nd→Nat
 | .mk _ _ _ ks=>1+cntL ks
def cntL:List Nd→Nat
 | []=>0
 | k::r=>cntN k+cntL r
end
mutual
def walkN:Nat→Nd→List (Nat×Nd)
 | d,.mk o t m ks=>(d,.mk o t m ks)::walkL (d+1) ks
def walkL:Nat→List Nd→List (Nat×Nd)
 | _,[]=> []
 | d,k::r=>walkN d k++walkL d r
end
mutual
theorem Uk: ∀ (d:Nat) (n:Nd),(walkN d n).length=cntN n
 | d,.mk o t m ks=>by rw [walkN,cntN,List.length_cons,walkL_len (d+1) ks];omega
theorem walkL_len: ∀ (d:Nat) (l:List Nd),(walkL d l).length=cntL l
 | d,[]=>by rw [walkL,cntL];rfl
 | d,k::r=>by rw [walkL,cntL,List.length_append,Uk d k,walkL_len d r]
end
theorem Xj: ∀ n,1≤cntN n
 | .mk o t m ks=>by rw [cntN];omega
theorem Ky {α:Type} {l:List α} {i:Nat} {x:α} (h:l[i]? = some x):l.drop i=x::l.drop (i+1):=by
 obtain ⟨hi,e⟩:=List.getElem?_eq_some_iff.1 h
 rw [List.drop_eq_getElem_cons hi,e]
theorem X2: ∀ l:List Nd,l.length≤cntL l
 | []=>Nat.zero_le _
 | k::r=>by
  have h1:=Xj k
  have h2:=X2 r
  rw [cntL,List.length_cons]
  omega
open Go Go.RowKit
set_option maxRecDepth 100000
set_option maxHeartbeats 8000000
def dsR (a:List (Nat×Nd)):List VV:=a.map fun p=>iV p.1
def nsR (a:List (Nat×Nd)):List VV:=rowsN (a.map (·.2))
def wkO (ps:List Tmp) (asg bd:Code) (b1 b2:Nat) (a:List (Nat×Nd)):List (Nat×VObj) :=
 [(0,.cells true [.gs b1 a.length 1]),(1,.cells true [.gs b2 a.length 4]),(2,.defs),(3,.loop [.junk,.junk,.junk,.junk,.ptr 0 0,.ptr 1 0,.junk,.junk,.junk,.junk,.junk,.junk,.junk,.junk,.junk,.junk,.junk,.junk,.junk,.junk,.junk] ps asg bd .ready none 2),(b1,.opt (dsR a)),(b2,.opt (nsR a))]
def WkC (ps:List Tmp) (asg bd:Code) (n:Nd) (d:Nat) (a:List (Nat×Nd)):Prop :=
 Qc Tryz.prog 111 [nV n,iV d,.yl 3] ⟨wkO ps asg bd 4 5 a,6⟩ (fun v K=>v=Xk true∧K=⟨wkO ps asg bd 10 11 (a++walkN d n),12⟩)
theorem WkC.of {ps:List Tmp} {asg bd:Code} {n:Nd} {d:Nat} {a:List (Nat×Nd)} (h:Qc Tryz.prog 111 [nV n,iV d,.yl 3] ⟨wkO ps asg bd 4 5 a,6⟩ (fun v K=>v=Xk true∧Gets K (wkO ps asg bd 10 11 (a++walkN d n))∧Nat.ble K.next 12=true)):WkC ps asg bd n d a :=
 Qc.post h fun v K q=>⟨v,⟨wkO ps asg bd 10 11 (a++walkN d n),12⟩,⟨q.1,rfl⟩,fun _ _ _ _ h=>h,Nat.le_of_ble_eq_true q.2.2,fun b x hx=>(q.2.1.get hx).1⟩
theorem Jq {D:List Nat} {n b:Nat} {O:List (Nat×VObj)} (h: ∀ b x,hget O b=some x→b < n) (hb:n≤b):Jl b ((Qs D O).map (·.1))=false:=by
 cases hm:Jl b ((Qs D O).map (·.1)) with
 | false=>rfl
 | true =>
  have hin:=Qp.1 hm
  have key: ∀ (l:List (Nat×VObj)),b∈l.map (·.1)→ ∃ x,hget l b=some x:=by
   intro l
   induction l with
   | nil=>intro h;cases h
   | cons p r ih =>
    obtain ⟨k,y⟩:=p
    intro hq
    rw [Qy]
    by_cases e:k=b
    ·exact ⟨y,by rw [if_pos e]⟩
    ·rw [if_neg e]
     rcases List.mem_cons.1 hq with hq|hq
     ·exact absurd hq.symm e
     ·exact ih hq
  obtain ⟨x,hx⟩:=key _ hin
  have h2:hget O b=some x:=by
   rw [Kp] at hx
   split at hx
   ·cases hx
   ·exact hx
  exact absurd (h b x h2) (by omega)
theorem WkC.all {ps:List Tmp} {asg bd:Code} (h: ∀ lo:VObj,lo= .loop [.junk,.junk,.junk,.junk,.ptr 0 0,.ptr 1 0,.junk,.junk,.junk,.junk,.junk,.junk,.junk,.junk,.junk,.junk,.junk,.junk,.junk,.junk,.junk] ps asg bd .ready none 2→ ∀ f,f≤20000→(∀ n d a,cntN n≤f→a.length+cntN n≤20000→d+cntN n≤100000→WkC ps asg bd n d a)→ ∀ n d a,cntN n≤f+1→a.length+cntN n≤20000→d+cntN n≤100000→WkC ps asg bd n d a) (n:Nd) (hn:cntN n≤20000):WkC ps asg bd n 0 []:=by
 have key: ∀ f,f≤20000→ ∀ n d a,cntN n≤f→a.length+cntN n≤20000→d+cntN n≤100000→WkC ps asg bd n d a:=by
  intro f
  induction f with
  | zero =>
   intro _ n d a h1
   have:=Xj n
   omega
  | succ f ih=>exact fun hf=>h _ rfl f (by omega) (ih (by omega))
 exact key 20000 (Nat.le_refl _) n 0 [] hn (by simpa using hn) (by omega)
def Cx (rd:PSt→Nd×PSt):Prop:= ∀ s,cntN (rd s).1+4*(rd s).2.l.length≤4*s.l.length+3
theorem Ku {x:List UInt8} {s:PSt} (h:(isS x s).1=true):(isS x s).2.l.length+1=s.l.length:=by
 obtain ⟨l,d,e⟩:=s
 cases l with
 | nil=>simp [isS] at h
 | cons q r =>
  obtain ⟨g,a⟩:=q
  unfold isS at h ⊢
  simp only at h ⊢
  split at h
  ·rename_i hc
   rw [if_pos hc]
   rfl
  ·cases h
theorem Cm (x:List UInt8) (s:PSt):(isS x s).2.l.length≤s.l.length:=by
 cases h:(isS x s).1 with
 | true=>have:=Ku h;omega
 | false=>rw [Zf h];exact Nat.le_refl _
theorem Ee (e:Nat) (s:PSt):(Ka e s).l=s.l:=by unfold Ka;split <;> rfl
theorem Ut (x:List UInt8) (s:PSt):(Jk x s).l.length≤s.l.length:=by
 unfold Jk
 split
 ·exact Cm x s
 ·rw [Ee];exact Nat.le_refl _
theorem Wk (l:List Nd) (n:Nd):cntL (l++ [n])=cntL l+cntN n:=by
 induction l with
 | nil=>simp [cntL]
 | cons k r ih=>rw [List.cons_append,cntL,cntL,ih];omega
theorem Ei {rd:PSt→Nd×PSt} (h:Cx rd):Cx (J8 rd):=fun s=>by
 unfold J8
 have hl:(U2 s).l=s.l:=by unfold U2;split;exact Ee 9 s;rfl
 split
 ·rw [hl];simp [nd0,cntN,cntL];omega
 ·exact h ⟨s.l,s.d+1,s.e⟩
theorem mustS_cut {x:List UInt8} {s:PSt}:(Jk x s).l.length+1=s.l.length∨((Jk x s).l.length=s.l.length∧(Jk x s).e≠0):=by
 unfold Jk
 split
 ·rename_i h;exact .inl (Ku h)
 ·right
  rw [Ee]
  refine ⟨rfl,?_⟩
  unfold Ka
  split
  ·exact (by decide:(2:Nat)≠0)
  ·assumption
theorem lsLoop_cx {rd:PSt→Nd×PSt} (h:Cx rd): ∀ (f:Nat) (out:List Nd) (s:PSt),cntL (Xu rd f out s).1+4*(Xu rd f out s).2.l.length≤cntL out+4*s.l.length+(if s.e=0 then 3 else 0)
 | 0,out,s=>by rw [Xu];simp only;omega
 | f+1,out,s=>by
  rw [Xu]
  have h1:=h s
  by_cases he:s.e=0
  ·rw [if_pos he,if_pos he]
   split
   ·rename_i hc
    have:=Ku hc
    simp only [Wk]
    omega
   ·have h2:=lsLoop_cx h f (out++ [(rd s).1]) (Jk [44] (rd s).2)
    rw [Wk] at h2
    rcases mustS_cut (x:= [44]) (s:=(rd s).2) with h3|⟨h3,h4⟩
    ·split at h2 <;> omega
    ·rw [if_neg h4] at h2
     omega
  ·rw [if_neg he,if_neg he]
   simp only;omega
theorem listS_cx {rd:PSt→Nd×PSt} (h:Cx rd) (s:PSt):cntL (Y6 rd s).1+4*(Y6 rd s).2.l.length≤4*s.l.length+3:=by
 unfold Y6
 split
 ·have:=Cm [41] s
  simp only [cntL];omega
 ·have:=lsLoop_cx h (s.l.length+2) [] s
  simp only [cntL] at this
  split at this <;> omega
theorem opS_cut: ∀ (L:List (List UInt8)) (s:PSt),match opS L s with
  | (some _,s')=>s'.l.length+1=s.l.length
  | (none,s')=>s'=s
 | [],s=>rfl
 | x::r,s=>by
  rw [opS]
  by_cases h:(isS x s).1=true
  ·rw [if_pos h];exact Ku h
  ·rw [if_neg h];exact opS_cut r s
theorem takeS_cut (k:Nat) (s:PSt):match Zb k s with
  | (some _,s')=>s'.l.length+1=s.l.length
  | (none,s')=>s'=s:=by
 obtain ⟨l,d,e⟩:=s
 cases l with
 | nil=>rfl
 | cons q r =>
  obtain ⟨g,a⟩:=q
  unfold Zb
  simp only
  by_cases h:e=0∧g.kind=k
  ·rw [if_pos h];rfl
  ·rw [if_neg h]
theorem nmS_len (s:PSt):(nmS s).2.l.length≤s.l.length:=by
 have h:=takeS_cut 1 s
 unfold nmS
 generalize Zb 1 s=q at *
 obtain ⟨a,s'⟩:=q
 cases a with
 | none=>simp only at h ⊢;subst h;rw [Ee];exact Nat.le_refl _
 | some g=>obtain ⟨g,b⟩:=g;simp only at h ⊢;omega
theorem lvLoop_cx {nx:PSt→Nd×PSt} (h:Cx nx) (i:Nat): ∀ (f:Nat) (out:Nd) (s:PSt),cntN (Ze i nx f out s).1+4*(Ze i nx f out s).2.l.length≤cntN out+4*s.l.length
 | 0,out,s=>by rw [Ze];exact Nat.le_refl _
 | f+1,out,s=>by
  rw [Ze]
  have h1:=opS_cut (opL i) s
  generalize opS (opL i) s=q at *
  obtain ⟨a,s1⟩:=q
  cases a with
  | none=>simp only at h1 ⊢;subst h1;exact Nat.le_refl _
  | some x =>
   simp only at h1 ⊢
   have h2:=h s1
   have hc:cntN (.mk 13 x 0 [out,(nx s1).1])=1+(cntN out+(cntN (nx s1).1+0)):=by rw [cntN,cntL,cntL,cntL]
   split
   ·simp only;omega
   ·have h3:=lvLoop_cx h i f (.mk 13 x 0 [out,(nx s1).1]) (nx s1).2
    omega
theorem D6 {un:PSt→Nd×PSt} (h:Cx un): ∀ k,Cx (Xs un k)
 | 0=>h
 | k+1=>fun s=>by
  rw [Xs]
  have h1:=D6 h k s
  have h2:=lvLoop_cx (D6 h k) (4 - k) ((Xs un k s).2.l.length+1) (Xs un k s).1 (Xs un k s).2
  omega
theorem primS_cx {un:PSt→Nd×PSt} (h:Cx un):Cx (Bm un):=fun s=>by
 unfold Bm
 have h1:=takeS_cut 3 s
 generalize Zb 3 s=q at *
 obtain ⟨a,s1⟩:=q
 cases a with
 | some g=>obtain ⟨g,b⟩:=g;simp only [cntN,cntL] at h1 ⊢;omega
 | none =>
  simp only
  have h2:=takeS_cut 4 s
  generalize Zb 4 s=q at *
  obtain ⟨a,s2⟩:=q
  cases a with
  | some g=>obtain ⟨g,b⟩:=g;simp only [cntN,cntL] at h2 ⊢;omega
  | none =>
   simp only
   split
   ·have:=Cm [110,105,108] s
    simp only [cntN,cntL];omega
   ·split
    ·rename_i hc
     have h3:=Ku hc
     have h4:=Ei (D6 h 5) (isS [40] s).2
     have h5:=Ut [41] (J8 (Xs un 5) (isS [40] s).2).2
     simp only;omega
    ·have h3:=nmS_len s
     split
     ·rename_i hc
      have h4:=Ku hc
      have h5:=listS_cx (Ei (D6 h 5)) (isS [40] (nmS s).2).2
      simp only [cntN];omega
     ·simp only [cntN,cntL];omega
theorem unS_cx: ∀ n,Cx (unS n)
 | 0=>fun s=>by rw [unS];simp [nd0,cntN,cntL];omega
 | n+1=>fun s=>by
  rw [unS]
  split
  ·rename_i hc
   have h1:=Ku hc
   have h2:=Ei (unS_cx n) (isS [110,111,116] s).2
   simp only [cntN,cntL];omega
  ·split
   ·rename_i hc
    have h1:=Ku hc
    have h2:=Ei (unS_cx n) (isS [45] s).2
    simp only [cntN,cntL];omega
   ·exact primS_cx (unS_cx n) s
theorem exS_cx:Cx exS:=fun s=>D6 (unS_cx _) 5 s
def Sx (st:PSt→Nd×PSt):Prop:= ∀ s,cntN (st s).1+8*(st s).2.l.length≤8*s.l.length+(if (st s).2.e=0 then 0 else 8)
def Bx (bl:PSt→Nd×PSt):Prop:= ∀ s,cntN (bl s).1+8*(bl s).2.l.length≤8*s.l.length+1
theorem cntN_ge: ∀ n,1≤cntN n
 | .mk o t m ks=>by rw [cntN];omega
theorem Cx.len {rd:PSt→Nd×PSt} (h:Cx rd) (s:PSt):(rd s).2.l.length≤s.l.length:=by
 have h1:=h s
 have h2:=cntN_ge (rd s).1
 omega
theorem stLoop_er (st:PSt→Nd×PSt) {s:PSt} (he: ¬ s.e=0): ∀ (f:Nat) (out:List Nd),Xh st f out s=(out,s)
 | 0,out=>rfl
 | f+1,out=>by rw [Xh,if_neg he]
theorem stLoop_sx {st:PSt→Nd×PSt} (h:Sx st): ∀ (f:Nat) (out:List Nd) (s:PSt),cntL (Xh st f out s).1+8*(Xh st f out s).2.l.length≤cntL out+8*s.l.length+8
 | 0,out,s=>by rw [Xh];simp only;omega
 | f+1,out,s=>by
  rw [Xh]
  by_cases he:s.e=0
  ·rw [if_pos he]
   split
   ·have:=Cm [125] s
    simp only;omega
   ·have h1:=h s
    by_cases h2:(st s).2.e=0
    ·rw [if_pos h2] at h1
     have h3:=stLoop_sx h f (out++ [(st s).1]) (st s).2
     rw [Wk] at h3
     omega
    ·rw [if_neg h2] at h1
     rw [stLoop_er st h2]
     simp only [Wk]
     omega
  ·rw [if_neg he]
   simp only;omega
theorem blockS_bx {st:PSt→Nd×PSt} (h:Sx st):Bx (Df st):=fun s=>by
 unfold Df J8
 have hl: ∀ s,(U2 s).l=s.l:=fun s=>by unfold U2;split;exact Ee 9 s;rfl
 have hm:=Ut [123] s
 split
 ·rw [hl];simp only [nd0,cntN,cntL];omega
 ·rename_i hd
  rcases mustS_cut (x:= [123]) (s:=s) with h3|⟨h3,h4⟩
  ·have h5:=stLoop_sx h ((Jk [123] s).l.length+2) [] ⟨(Jk [123] s).l,(Jk [123] s).d+1,(Jk [123] s).e⟩
   simp only [cntL,cntN] at h5 ⊢
   omega
  ·exfalso
   apply hd
   unfold U2
   split
   ·unfold Ka;rw [if_neg h4];exact h4
   ·exact h4
theorem stmtS_sx {bl:PSt→Nd×PSt} (h:Bx bl):Sx (Zn bl):=fun s=>by
 have hx:=fun s=>exS_cx s
 have hxl:=fun s=>Cx.len exS_cx s
 have done: ∀ {n:Nd} {s':PSt},cntN n+8*s'.l.length≤8*s.l.length→cntN n+8*s'.l.length≤8*s.l.length+(if s'.e=0 then 0 else 8):=fun h=>Nat.le_trans h (Nat.le_add_right _ _)
 have done2: ∀ {n:Nd} {s1:PSt},cntN n+8*s1.l.length≤8*s.l.length+8→cntN n+8*(Jk [59] s1).l.length≤8*s.l.length+(if (Jk [59] s1).e=0 then 0 else 8):=fun {n s1} h=>by
  rcases mustS_cut (x:= [59]) (s:=s1) with h3|⟨h3,h4⟩
  ·split <;> omega
  ·rw [if_neg h4,h3];exact h
 unfold Zn
 split
 ·rename_i hc
  have h0:=Ku hc
  generalize (isS [105,102] s).2=s0 at *
  refine done ?_
  unfold ifS
  have h1:=hx s0
  have h1':=hxl s0
  have h2:=h (exS s0).2
  have h3:=Cm [101,108,115,101] (bl (exS s0).2).2
  have h4:=h (isS [101,108,115,101] (bl (exS s0).2).2).2
  split
  ·simp only [cntN,cntL];omega
  ·simp only [cntN,cntL];omega
 ·split
  ·rename_i hc
   have h0:=Ku hc
   generalize (isS [119,104,105,108,101] s).2=s0 at *
   refine done ?_
   have h1:=hx s0
   have h1':=hxl s0
   have h2:=h (exS s0).2
   simp only [cntN,cntL];omega
  ·split
   ·have h0:=Cm [115,116,111,112] s
    refine done2 ?_
    simp only [cntN,cntL];omega
   ·split
    ·have h0:=nmS_len s
     have h1:=Ut [61] (nmS s).2
     have h2:=hx (Jk [61] (nmS s).2)
     have h2':=hxl (Jk [61] (nmS s).2)
     refine done2 ?_
     simp only [cntN,cntL];omega
    ·have h2:=hx s
     have h2':=hxl s
     refine done2 ?_
     simp only [cntN,cntL];omega
theorem blS_bx: ∀ n,Bx (blS n)
 | 0=>fun s=>by rw [blS];simp only [nd0,cntN,cntL];omega
 | n+1=>blockS_bx (stmtS_sx (blS_bx n))
theorem varS_cx:Cx varS:=fun s=>by
 have:=nmS_len s
 unfold varS
 simp only [cntN,cntL];omega
theorem onS_cnt (s:PSt):cntN (onS s).1+8*(onS s).2.l.length≤8*s.l.length+5:=by
 unfold onS
 simp only
 have h1:=Ut [111,110] s
 generalize Jk [111,110] s=s1 at *
 have h2:=nmS_len s1
 generalize (nmS s1).2=s2 at *
 have h3:=Ut [40] s2
 generalize Jk [40] s2=s3 at *
 have h4:=listS_cx varS_cx s3
 have h6:=blS_bx ((Y6 varS s3).2.l.length+1) (Y6 varS s3).2
 rw [cntN,Wk]
 have h5:(Y6 varS s3).2.l.length≤s3.l.length:=by omega
 omega
theorem scLoop_cnt: ∀ (f:Nat) (out:List Nd) (s:PSt),cntL (scLoop f out s).1+8*(scLoop f out s).2.l.length≤cntL out+8*s.l.length+5*f
 | 0,out,s=>by rw [scLoop];exact Nat.le_refl _
 | f+1,out,s=>by
  rw [scLoop]
  split
  ·have h1:=onS_cnt s
   have h2:=scLoop_cnt f (out++ [(onS s).1]) (onS s).2
   rw [Wk] at h2
   omega
  ·simp only;omega
theorem scriptS_cnt (s:PSt):cntN (X9 s).1≤13*s.l.length+11:=by
 unfold X9
 have h:=scLoop_cnt (s.l.length+2) [] s
 simp only [cntN,cntL] at h ⊢
 omega
theorem parseT_cnt (t:List UInt8):cntN (Zs t).1≤14000:=by
 have h0:cntN nd0≤14000:=by simp only [nd0,cntN,cntL];omega
 unfold Zs
 cases hS:Zr t with
 | inl e=>exact h0
 | inr l =>
  have hl:=(Cd hS).2
  have h:=scriptS_cnt ⟨l,0,0⟩
  simp only at h ⊢
  split
  ·exact h0
  ·split
   ·exact h0
   ·show cntN (X9 ⟨l,0,0⟩).1≤14000
    omega
end Go.Proofs.YtpbiblhkcomekaaGreat
