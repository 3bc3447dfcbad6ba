import Derived.Test.YtpbiblhkcomekaaGreatBG4
import Derived.Test.YtpbiblhkcomekaaGreatBH1
import Derived.Lib.ItoaNum
import Derived.Test.YtpbiblhkcomekaaGreatBU1
import Derived.Test.YtpbiblhkcomekaaGreatBH6
/- TreeBack, in plain words: a tree's signs; which trees a text may have. -/
namespace Go.Proofs.YtpbiblhkcomekaaGreat
open Go Go.RowKit
set_option linter.unusedSimpArgs false
set_option linter.unusedVariables false
set_option maxRecDepth 20000
def wdG (x:List UInt8):Sg:=⟨2,x,0⟩
def mkG (x:List UInt8):Sg:=⟨5,x,0⟩
def nmG (x:List UInt8):Sg:=⟨1,x,0⟩
def txG (x:List UInt8):Sg:=⟨4,x,0⟩
def nuG (v:Nat):Sg:=⟨3,[],v⟩
def opG (x:List UInt8):Sg:=if wordsL.contains x then wdG x else mkG x
def lvO (x:List UInt8):Nat:=if (opL 0).contains x then 0 else if (opL 1).contains x then 1 else if (opL 2).contains x then 2 else if (opL 3).contains x then 3 else 4
def rankN:Nd→Nat
 | .mk op tx _ _=>if op=13 then lvO tx else if op=14 then 5 else 6
def rowG:List (List Sg)→List Sg
 | []=> []
 | [x]=>x
 | x::y::r=>x++mkG [44]::rowG (y::r)
def brG (b:Bool) (l:List Sg):List Sg:=if b then mkG [40]::(l++ [mkG [41]]) else l
def raO (i:Nat):Nat:=if i=2 then 3 else i
def Bz (op:Nat) (tx:List UInt8) (nm:Nat) (rs:List Nat) (L:List (List Sg)):List Sg :=
 match op with
 | 0=>L.flatten
 | 1=>wdG [111,110]::nmG tx::mkG [40]::(rowG L.dropLast++mkG [41]::L.getLastD [])
 | 2=>mkG [123]::(L.flatten++ [mkG [125]])
 | 3=>nmG tx::mkG [61]::(L.getD 0 []++ [mkG [59]])
 | 4=>L.getD 0 []++ [mkG [59]]
 | 5=>wdG [105,102]::(L.getD 0 []++(L.getD 1 []++(if L.length=3 then wdG [101,108,115,101]::L.getD 2 [] else [])))
 | 6=>wdG [119,104,105,108,101]::(L.getD 0 []++L.getD 1 [])
 | 7=> [wdG [115,116,111,112],mkG [59]]
 | 8=> [nuG nm]
 | 9=> [txG tx]
 | 10=> [wdG [110,105,108]]
 | 11=> [nmG tx]
 | 12=>nmG tx::mkG [40]::(rowG L++ [mkG [41]])
 | 13=>brG (decide (rs.getD 0 0 < raO (lvO tx))) (L.getD 0 [])++opG tx::brG (decide (rs.getD 1 0 < lvO tx+1)) (L.getD 1 [])
 | _=>opG tx::brG (decide (rs.getD 0 0 < 5)) (L.getD 0 [])
mutual
def sgN:Nd→List Sg
 | .mk op tx nm ks=>Bz op tx nm (ks.map rankN) (sgM ks)
def sgM:List Nd→List (List Sg)
 | []=> []
 | k::r=>sgN k::sgM r
end
theorem sgM_map: ∀ l:List Nd,sgM l=l.map sgN
 | []=>by rw [sgM];rfl
 | k::r=>by rw [sgM,sgM_map r];rfl
theorem Y4 (op:Nat) (tx:List UInt8) (nm:Nat) (ks:List Nd):sgN (.mk op tx nm ks)=Bz op tx nm (ks.map rankN) (ks.map sgN):=by rw [sgN,sgM_map]
def sgI (r:Nat) (n:Nd):List Sg:=brG (decide (rankN n < r)) (sgN n)
def ownS (g:Sg):List UInt8:=if g.kind=3 then Lib.decDigits g.num else if g.kind=4 then quoteB g.text else g.text
def U7 (g:Sg):Prop:=(∀ r,Xl (ownS g++32::r)=⟨g,(ownS g).length,0⟩)∧ ∃ c x,ownS g=c::x∧U5 c=false∧c.toNat≠35∧x.length≤5000
def dpI (d r:Nat) (n:Nd) (dn:Nat):Prop:=(r≤rankN n∧dn=d)∨(rankN n < r∧d < 16∧dn=d+1)
inductive FitE:Nat→Nd→Prop where
 | num {d v:Nat} (h:v≤2147483648):FitE d (.mk 8 [] v [])
 | text {d:Nat} {x:List UInt8} (h:U7 (txG x)) (hl:x.length≤1200):FitE d (.mk 9 x 0 [])
 | nil {d:Nat}:FitE d (.mk 10 [] 0 [])
 | var {d:Nat} {x:List UInt8} (h:U7 (nmG x)):FitE d (.mk 11 x 0 [])
 | call {d:Nat} {x:List UInt8} {ks:List Nd} (h:U7 (nmG x)) (hd: ∀ k∈ks,d < 16) (hk: ∀ k∈ks,FitE (d+1) k):FitE d (.mk 12 x 0 ks)
 | bin {d da db:Nat} {x:List UInt8} {a b:Nd} (hx:x∈opL (lvO x)) (ha:dpI d (raO (lvO x)) a da) (fa:FitE da a) (hb:dpI d (lvO x+1) b db) (fb:FitE db b):FitE d (.mk 13 x 0 [a,b])
 | un {d dk:Nat} {x:List UInt8} {k:Nd} (hx:x= [110,111,116]∨x= [45]) (hd:d < 16) (hk:dpI (d+1) 5 k dk) (fk:FitE dk k):FitE d (.mk 14 x 0 [k])
inductive FitS:Nat→Nat→Nd→Prop where
 | set {d:Nat} {x:List UInt8} {n:Nd} (h:U7 (nmG x)) (hn:FitE d n):FitS 0 d (.mk 3 x 0 [n])
 | do_ {d:Nat} {n:Nd} (hn:FitE d n):FitS 0 d (.mk 4 [] 0 [n])
 | if2 {d:Nat} {n b:Nd} (hn:FitE d n) (hb:FitS 1 d b):FitS 0 d (.mk 5 [] 0 [n,b])
 | if3 {d:Nat} {n b c:Nd} (hn:FitE d n) (hb:FitS 1 d b) (hc:FitS 1 d c):FitS 0 d (.mk 5 [] 0 [n,b,c])
 | while_ {d:Nat} {n b:Nd} (hn:FitE d n) (hb:FitS 1 d b):FitS 0 d (.mk 6 [] 0 [n,b])
 | stop {d:Nat}:FitS 0 d (.mk 7 [] 0 [])
 | block {d:Nat} {ks:List Nd} (hd:d < 16) (hk: ∀ k∈ks,FitS 0 (d+1) k):FitS 1 d (.mk 2 [] 0 ks)
def FitO (n:Nd):Prop:= ∃ (x:List UInt8) (ys:List (List UInt8)) (b:Nd),n= .mk 1 x 0 (ys.map (fun y=> .mk 11 y 0 [])++ [b])∧U7 (nmG x)∧(∀ y∈ys,U7 (nmG y))∧FitS 1 0 b
theorem dpI_mono {d r d':Nat} {n:Nd} {dn:Nat} (h:dpI d r n dn) (hd:d'≤d): ∃ dn',dpI d' r n dn'∧dn'≤dn:=by
 rcases h with ⟨h1,rfl⟩|⟨h1,h2,rfl⟩
 ·exact ⟨d',.inl ⟨h1,rfl⟩,hd⟩
 ·exact ⟨d'+1,.inr ⟨h1,by omega,rfl⟩,by omega⟩
theorem FitE.mono {d:Nat} {n:Nd} (h:FitE d n): ∀ {d':Nat},d'≤d→FitE d' n:=by
 induction h with
 | num h=>exact fun _=> .num h
 | text h hl=>exact fun _=> .text h hl
 | nil=>exact fun _=> .nil
 | var h=>exact fun _=> .var h
 | call h h16 hk ih=>exact fun hd=> .call h (fun k hm=>by have:=h16 k hm;omega) fun k hm=>ih k hm (by omega)
 | bin hx ha fa hb fb iha ihb =>
  intro d' hd
  obtain ⟨da',a1,a2⟩:=dpI_mono ha hd
  obtain ⟨db',b1,b2⟩:=dpI_mono hb hd
  exact .bin hx a1 (iha a2) b1 (ihb b2)
 | un hx hd hk fk ih =>
  intro d' hd'
  obtain ⟨dk',a1,a2⟩:=dpI_mono hk (show d'+1≤_+1 by omega)
  exact .un hx (by omega) a1 (ih a2)
def K3 (l:List (Sg×Nat)):Prop:= ∀ p∈l,(p.1.kind=1→U7 (nmG p.1.text))∧(p.1.kind=4→U7 (txG p.1.text)∧p.1.text.length≤1200)∧(p.1.kind=3→p.1.num≤2147483648)
theorem K3.suf {l l':List (Sg×Nat)} (h:K3 l) (hs:l' <:+ l):K3 l':=fun p hp=>h p (hs.subset hp)
theorem Zk {x:List UInt8} {s:PSt} (h:(isS x s).1=true):(isS x s).2.l <:+ s.l∧(isS x s).2.l.length+1=s.l.length∧s.e=0∧(isS x s).2.e=0∧(isS x s).2.d=s.d:=by
 obtain ⟨l,d,e⟩:=s
 cases l with
 | nil=>simp [isS] at h
 | cons q r =>
  obtain ⟨g,a⟩:=q
  unfold isS at h ⊢
  simp only at h ⊢
  split at h
  ·rename_i hc
   rw [if_pos hc]
   exact ⟨List.suffix_cons _ _,rfl,hc.1,hc.1,rfl⟩
  ·cases h
theorem Zj {x:List UInt8} {s:PSt} (h:(Jk x s).e=0):(isS x s).1=true∧Jk x s=(isS x s).2∧(Jk x s).l <:+ s.l∧(Jk x s).l.length+1=s.l.length∧s.e=0∧(Jk x s).d=s.d:=by
 unfold Jk at h ⊢
 cases hi:(isS x s).1 with
 | true =>
  rw [if_pos rfl]
  obtain ⟨h1,h2,h3,h4,h5⟩:=Zk hi
  exact ⟨rfl,rfl,h1,h2,h3,h5⟩
 | false =>
  rw [hi,if_neg (by decide)] at h
  unfold Ka at h
  split at h
  ·cases h
  ·rename_i hne;exact absurd h hne
theorem takeS_yes {k:Nat} {s s':PSt} {g:Sg} {a:Nat} (h:Zb k s=(some (g,a),s')):s.l=(g,a)::s'.l∧g.kind=k∧s.e=0∧s'.e=0∧s'.d=s.d:=by
 obtain ⟨l,d,e⟩:=s
 cases l with
 | nil=>cases h
 | cons q r =>
  obtain ⟨g1,a1⟩:=q
  unfold Zb at h
  simp only at h
  split at h
  ·rename_i hc
   simp only [Prod.mk.injEq,Option.some.injEq] at h
   obtain ⟨⟨rfl,rfl⟩,rfl⟩:=h
   exact ⟨rfl,hc.2,hc.1,hc.1,rfl⟩
  ·simp at h
theorem Dy {s:PSt} (h:(nmS s).2.e=0): ∃ g a,s.l=(g,a)::(nmS s).2.l∧g.kind=1∧(nmS s).1=g.text∧s.e=0∧(nmS s).2.d=s.d:=by
 unfold nmS at h ⊢
 split at h
 ·rename_i g a s' ht
  obtain ⟨h1,h2,h3,h4,h5⟩:=takeS_yes ht
  exact ⟨g,a,h1,h2,rfl,h3,h5⟩
 ·simp only at h
  unfold Ka at h
  split at h
  ·cases h
  ·rename_i hne;exact absurd h hne
theorem deepS_yes {rd:PSt→Nd×PSt} {s:PSt} (h:(J8 rd s).2.e=0):s.e=0∧s.d < 16∧J8 rd s=((rd ⟨s.l,s.d+1,0⟩).1,⟨(rd ⟨s.l,s.d+1,0⟩).2.l,(rd ⟨s.l,s.d+1,0⟩).2.d - 1,(rd ⟨s.l,s.d+1,0⟩).2.e⟩):=by
 unfold J8 at h ⊢
 have hE:(U2 s).e=0→s.e=0∧s.d < 16:=by
  unfold U2
  split
  ·unfold Ka
   split
   ·intro h;cases h
   ·rename_i hne;intro h;exact absurd h hne
  ·rename_i hlt;intro h;exact ⟨h,by omega⟩
 by_cases he:(U2 s).e=0
 ·obtain ⟨h1,h2⟩:=hE he
  rw [if_neg (by rw [he];simp)] at h ⊢
  rw [h1]
  exact ⟨rfl,h2,rfl⟩
 ·rw [if_pos he] at h
  exact absurd h he
theorem opS_yes: ∀ {L:List (List UInt8)} {s s':PSt} {x:List UInt8},opS L s=(some x,s')→x∈L∧s'.l <:+ s.l∧s'.l.length+1=s.l.length∧s.e=0∧s'.e=0∧s'.d=s.d
 | [],s,s',x,h=>by cases h
 | y::r,s,s',x,h=>by
  unfold opS at h
  split at h
  ·rename_i hc
   simp only [Prod.mk.injEq,Option.some.injEq] at h
   obtain ⟨rfl,rfl⟩:=h
   obtain ⟨h1,h2,h3,h4,h5⟩:=Zk hc
   exact ⟨List.mem_cons_self ..,h1,h2,h3,h4,h5⟩
  ·obtain ⟨h1,h2⟩:=opS_yes h
   exact ⟨List.mem_cons_of_mem _ h1,h2⟩
structure RE (r:Nat) (s s':PSt) (n:Nd):Prop where
 suf:s'.l <:+ s.l
 dep: ∃ dn,dpI s.d r n dn∧FitE dn n
 cnt:(sgI r n).length+s'.l.length≤s.l.length
def GoodE (N r:Nat) (rd:PSt→Nd×PSt):Prop:= ∀ s,s.l.length < N→K3 s.l→s.e=0→(rd s).2.e=0→RE r s (rd s).2 (rd s).1
theorem brG_len (b:Bool) (l:List Sg):(brG b l).length=l.length+(if b then 2 else 0):=by
 cases b <;> simp [brG]
theorem Bj {r:Nat} {n:Nd} (h:r≤rankN n):sgI r n=sgN n:=by
 unfold sgI
 rw [decide_eq_false (by omega)]
 rfl
theorem sgI_le {r r':Nat} {n:Nd} (h:r'≤r):(sgI r' n).length≤(sgI r n).length:=by
 unfold sgI
 rw [brG_len,brG_len]
 by_cases h1:rankN n < r'
 ·rw [decide_eq_true h1,decide_eq_true (by omega)];exact Nat.le_refl _
 ·rw [decide_eq_false h1];simp
theorem RE.weak {r r':Nat} {s s':PSt} {n:Nd} (h:RE r s s' n) (hr:r'≤r):RE r' s s' n:=by
 obtain ⟨h1,⟨dn,h2,h3⟩,h4⟩:=h
 refine ⟨h1,?_,by have:=sgI_le (n:=n) hr;omega⟩
 rcases h2 with ⟨g1,rfl⟩|⟨g1,g2,rfl⟩
 ·exact ⟨_,.inl ⟨by omega,rfl⟩,h3⟩
 ·by_cases g:r'≤rankN n
  ·exact ⟨s.d,.inl ⟨g,rfl⟩,h3.mono (by omega)⟩
  ·exact ⟨s.d+1,.inr ⟨by omega,g2,rfl⟩,h3⟩
theorem lvO_of: ∀ i,i≤4→ ∀ x∈opL i,lvO x=i:=by
 intro i hi
 match i,hi with
 | 0,_=>decide
 | 1,_=>decide
 | 2,_=>decide
 | 3,_=>decide
 | 4,_=>decide
theorem sgN_bin (x:List UInt8) (a b:Nd):sgN (.mk 13 x 0 [a,b])=sgI (raO (lvO x)) a++opG x::sgI (lvO x+1) b:=by rw [Y4];rfl
theorem sgN_un (x:List UInt8) (k:Nd):sgN (.mk 14 x 0 [k])=opG x::sgI 5 k:=by rw [Y4];rfl
theorem sgN_call (x:List UInt8) (ks:List Nd):sgN (.mk 12 x 0 ks)=nmG x::mkG [40]::(rowG (ks.map sgN)++ [mkG [41]]):=by rw [Y4];rfl
theorem RE.bin {i:Nat} (hi:i≤4) {s0 s s1 s2:PSt} {out b:Nd} {x:List UInt8} (h1:RE (raO i) s0 s out) (hd:s.d=s0.d) (ho:opS (opL i) s=(some x,s1)) (h2:RE (i+1) s1 s2 b):RE i s0 s2 (.mk 13 x 0 [out,b]):=by
 obtain ⟨o1,o2,o3,o4,o5,o6⟩:=opS_yes ho
 obtain ⟨a1,⟨da,a2,a3⟩,a4⟩:=h1
 obtain ⟨b1,⟨db,b2,b3⟩,b4⟩:=h2
 have hx:=lvO_of i hi x o1
 have hr:rankN (.mk 13 x 0 [out,b])=i:=hx
 refine ⟨(b1.trans o2).trans a1,⟨s0.d,.inl ⟨by omega,rfl⟩,?_⟩,?_⟩
 ·rw [o6,hd] at b2
  exact .bin (by rw [hx];exact o1) (by rw [hx];exact a2) a3 (by rw [hx];exact b2) b3
 ·rw [Bj (by omega),sgN_bin,hx,List.length_append,List.length_cons]
  omega
theorem lvE {N i:Nat} {nx:PSt→Nd×PSt} (hi:i≤4) (hn:GoodE N (i+1) nx) (hok: ∀ s,Ok s (nx s).2): ∀ (f:Nat) (out:Nd) (s s0:PSt),s.l.length < N→K3 s.l→RE (raO i) s0 s out→s.e=0→s.d=s0.d→(Ze i nx f out s).2.e=0→RE i s0 (Ze i nx f out s).2 (Ze i nx f out s).1
 | 0,out,s,s0,hN,hg,hr,he,hd,hz=>hr.weak (by unfold raO;split <;> omega)
 | f+1,out,s,s0,hN,hg,hr,he,hd,hz=>by
  unfold Ze at hz ⊢
  split at hz
  ·rename_i s1 ho
   have:=opS_no _ _ (by rw [ho])
   rw [ho] at this
   simp only at this
   subst this
   exact hr.weak (by unfold raO;split <;> omega)
  ·rename_i x s1 ho
   obtain ⟨o1,o2,o3,o4,o5,o6⟩:=opS_yes ho
   have ok:=hok s1
   split at hz
   ·rename_i h2
    rw [if_pos h2]
    exact hr.bin hi hd ho (hn s1 (by omega) (hg.suf o2) o5 hz)
   ·rename_i h2
    rw [if_neg h2]
    have hra:raO i=i:=by unfold raO;rw [if_neg h2]
    have hL:=Ck (i:=i) f (.mk 13 x 0 [out,(nx s1).1]) (nx s1).2 (fun s' _=>hok s')
    have he2:(nx s1).2.e=0:=by
     by_cases q:(nx s1).2.e=0
     ·exact q
     ·have:=hL.err q;omega
    have hn2:=hn s1 (by omega) (hg.suf o2) o5 he2
    have hb:=hr.bin hi hd ho hn2
    refine lvE hi hn hok f _ _ s0 (by have:=hn2.suf.length_le;omega) ((hg.suf o2).suf hn2.suf) (by rw [hra];exact hb) he2 ?_ hz
    have:=ok.dep
    omega
theorem levE {N:Nat} {un:PSt→Nd×PSt} (hu:GoodE N 5 un) (hok: ∀ s,Ok s (un s).2): ∀ k,k≤5→GoodE N (5 - k) (Xs un k)
 | 0,_=>hu
 | k+1,hk=>fun s hN hg he hz=>by
  have ih:=levE hu hok k (by omega)
  have hok2: ∀ s,Ok s (Xs un k s).2:=fun s=>Wd k s fun s' _=>hok s'
  unfold Xs at hz ⊢
  have e1:5 - (k+1)=4 - k:=by omega
  have e2:5 - k=4 - k+1:=by omega
  rw [e2] at ih
  rw [e1]
  have he2:(Xs un k s).2.e=0:=by
   by_cases q:(Xs un k s).2.e=0
   ·exact q
   ·have:=(Ck (i:=4 - k) (nx:=Xs un k) ((Xs un k s).2.l.length+1) (Xs un k s).1 (Xs un k s).2 (fun s' _=>hok2 s')).err q
    omega
  have h1:=ih s hN hg he he2
  exact lvE (by omega) ih hok2 _ _ _ s (by have:=h1.suf.length_le;omega) (hg.suf h1.suf) (h1.weak (by unfold raO;split <;> omega)) he2 (hok2 s).dep hz
theorem ok_e {s s':PSt} (h:Ok s s') (he:s'.e=0):s.e=0:=by
 by_cases q:s.e=0
 ·exact q
 ·have:=h.err q;omega
def sumG (l:List Nd):Nat:=(l.map fun n=>(sgN n).length+1).sum
theorem sumG_snoc (l:List Nd) (n:Nd):sumG (l++ [n])=sumG l+((sgN n).length+1):=by unfold sumG;simp
theorem rowG_len: ∀ l:List Nd,(rowG (l.map sgN)).length+1=(if l= [] then 1 else sumG l)
 | []=>rfl
 | [x]=>by simp [rowG,sumG]
 | x::y::r=>by
  have ih:=rowG_len (y::r)
  rw [if_neg (by simp)] at ih ⊢
  simp only [List.map_cons] at ih ⊢
  rw [rowG,List.length_append,List.length_cons]
  simp only [sumG,List.map_cons,List.sum_cons] at ih ⊢
  omega
def N8 (N:Nat) (F:Nat→Nd→Prop) (rd:PSt→Nd×PSt):Prop:= ∀ s,s.l.length < N→K3 s.l→s.e=0→(rd s).2.e=0→(rd s).2.l <:+ s.l∧F s.d (rd s).1∧(sgN (rd s).1).length+(rd s).2.l.length≤s.l.length
theorem lsE {N:Nat} {F:Nat→Nd→Prop} {rd:PSt→Nd×PSt} (hr:N8 N F rd) (hok: ∀ s,Ok s (rd s).2): ∀ (f:Nat) (out:List Nd) (s s0:PSt),s.l.length < N→K3 s.l→s.l <:+ s0.l→s.d=s0.d→(∀ k∈out,F s0.d k)→sumG out+s.l.length≤s0.l.length→(Xu rd f out s).2.e=0→(s.e=0→s.l.length < f) →
  (Xu rd f out s).2.l <:+ s0.l∧(∀ k∈(Xu rd f out s).1,F s0.d k)∧sumG (Xu rd f out s).1+(Xu rd f out s).2.l.length≤s0.l.length∧(Xu rd f out s).1≠ []
 | 0,out,s,s0,hN,hg,hs,hd,hk,hc,hz,hf=>by
  rw [Xu] at hz
  have:=hf hz
  omega
 | f+1,out,s,s0,hN,hg,hs,hd,hk,hc,hz,hf=>by
  rw [Xu] at hz ⊢
  by_cases he:s.e=0
  ·rw [if_pos he] at hz ⊢
   have hf:=hf he
   by_cases hc1:(isS [41] (rd s).2).1=true
   ·rw [if_pos hc1] at hz ⊢
    obtain ⟨i1,i2,i3,i4,i5⟩:=Zk hc1
    obtain ⟨r1,r2,r3⟩:=hr s hN hg he i3
    refine ⟨(i1.trans r1).trans hs,?_,?_,by simp⟩
    ·intro k hm
     rcases List.mem_append.1 hm with hm|hm
     ·exact hk k hm
     ·rw [List.mem_singleton.1 hm,← hd];exact r2
    ·simp only [sumG_snoc]
     omega
   ·rw [if_neg hc1] at hz ⊢
    have hm:=ok_e (lsLoop_ok (rd:=rd) f (out++ [(rd s).1]) (Jk [44] (rd s).2) fun s' _=>hok s') hz
    obtain ⟨m0,m1,m2,m3,m4,m5⟩:=Zj hm
    obtain ⟨r1,r2,r3⟩:=hr s hN hg he m4
    have hdep:=(hok s).dep
    exact lsE hr hok f _ _ s0 (by omega) ((hg.suf r1).suf m2) ((m2.trans r1).trans hs) (by omega) (by
     intro k hm
     rcases List.mem_append.1 hm with hm|hm
     ·exact hk k hm
     ·rw [List.mem_singleton.1 hm,← hd];exact r2) (by rw [sumG_snoc];omega) hz (fun _=>by omega)
  ·rw [if_neg he] at hz
   exact absurd hz he
theorem listE {N:Nat} {F:Nat→Nd→Prop} {rd:PSt→Nd×PSt} (hr:N8 N F rd) (hok: ∀ s,Ok s (rd s).2) (s:PSt) (hN:s.l.length < N) (hg:K3 s.l) (he:s.e=0) (hz:(Y6 rd s).2.e=0) :
  (Y6 rd s).2.l <:+ s.l∧(∀ k∈(Y6 rd s).1,F s.d k)∧(rowG ((Y6 rd s).1.map sgN)).length+1+(Y6 rd s).2.l.length≤s.l.length:=by
 unfold Y6 at hz ⊢
 by_cases hc:(isS [41] s).1=true
 ·rw [if_pos hc] at hz ⊢
  obtain ⟨i1,i2,i3,i4,i5⟩:=Zk hc
  exact ⟨i1,fun k hk=>by simp at hk,by simp [rowG];omega⟩
 ·rw [if_neg hc] at hz ⊢
  obtain ⟨h1,h2,h3,h4⟩:=lsE hr hok (s.l.length+2) [] s s hN hg (List.suffix_refl _) rfl (fun k hk=>by cases hk) (by simp [sumG]) hz (fun _=>by omega)
  refine ⟨h1,h2,?_⟩
  rw [rowG_len,if_neg h4]
  exact h3
theorem deepK {N:Nat} {rd:PSt→Nd×PSt} (h:GoodE N 0 rd):N8 N (fun d k=>d < 16∧FitE (d+1) k) (J8 rd):=fun s hN hg he hz=>by
 obtain ⟨h1,h2,h3⟩:=deepS_yes hz
 rw [h3] at hz ⊢
 obtain ⟨r1,⟨dn,r2,r3⟩,r4⟩:=h ⟨s.l,s.d+1,0⟩ hN hg rfl hz
 rw [Bj (Nat.zero_le _)] at r4
 refine ⟨r1,⟨h2,?_⟩,r4⟩
 rcases r2 with ⟨_,rfl⟩|⟨q,_⟩
 ·exact r3
 ·omega
theorem primE {N:Nat} {un:PSt→Nd×PSt} (hu:GoodE N 5 un) (hok: ∀ s,Ok s (un s).2):GoodE (N+1) 5 (Bm un):=fun s hN hg he hz=>by
 have hl:=levE hu hok 5 (Nat.le_refl _)
 have hlok: ∀ s,Ok s (Xs un 5 s).2:=fun s=>Wd 5 s fun s' _=>hok s'
 have hdok: ∀ s,Ok s (J8 (Xs un 5) s).2:=fun s=>Bw s fun s' _=>hlok s'
 have bare: ∀ {n:Nd} {s':PSt},s'.l <:+ s.l→5≤rankN n→FitE s.d n→(sgN n).length+s'.l.length≤s.l.length→RE 5 s s' n:=fun h1 h2 h3 h4=>⟨h1,⟨_,.inl ⟨h2,rfl⟩,h3⟩,by rw [Bj h2];exact h4⟩
 unfold Bm at hz ⊢
 split at hz
 ·rename_i g a s' ht
  obtain ⟨t1,t2,t3,t4,t5⟩:=takeS_yes ht
  refine bare (by simp only;rw [t1];exact List.suffix_cons _ _) (by show 5≤6;omega) (.num ((hg (g,a) (by rw [t1];exact List.mem_cons_self ..)).2.2 t2)) ?_
  rw [t1,Y4]
  simp [Bz]
  omega
 ·rename_i ht
  split at hz
  ·rename_i g a s' ht
   obtain ⟨t1,t2,t3,t4,t5⟩:=takeS_yes ht
   refine bare (by simp only;rw [t1];exact List.suffix_cons _ _) (by show 5≤6;omega) (.text ((hg (g,a) (by rw [t1];exact List.mem_cons_self ..)).2.1 t2).1 ((hg (g,a) (by rw [t1];exact List.mem_cons_self ..)).2.1 t2).2) ?_
   rw [t1,Y4]
   simp [Bz]
   omega
  ·rename_i ht
   by_cases hn:(isS [110,105,108] s).1=true
   ·rw [if_pos hn]
    obtain ⟨i1,i2,i3,i4,i5⟩:=Zk hn
    refine bare i1 (by show 5≤6;omega) .nil ?_
    rw [Y4]
    simp [Bz]
    omega
   ·rw [if_neg hn] at hz ⊢
    by_cases hb:(isS [40] s).1=true
    ·rw [if_pos hb] at hz ⊢
     obtain ⟨i1,i2,i3,i4,i5⟩:=Zk hb
     obtain ⟨m0,m1,m2,m3,m4,m5⟩:=Zj hz
     have hd:=deepK hl
     obtain ⟨d1,⟨d2,d3⟩,d4⟩:=hd _ (by omega) (hg.suf i1) i4 m4
     refine ⟨(m2.trans d1).trans i1,?_,?_⟩
     all_goals simp only
     ·by_cases hr:5≤rankN (J8 (Xs un 5) (isS [40] s).2).1
      ·exact ⟨s.d,.inl ⟨hr,rfl⟩,d3.mono (by omega)⟩
      ·exact ⟨s.d+1,.inr ⟨by omega,by omega,rfl⟩,by rw [← i5];exact d3⟩
     ·have hle:(sgI 5 (J8 (Xs un 5) (isS [40] s).2).1).length≤(sgN (J8 (Xs un 5) (isS [40] s).2).1).length+2:=by
       unfold sgI
       rw [brG_len]
       split <;> omega
      omega
    ·rw [if_neg hb] at hz ⊢
     by_cases hc:(isS [40] (nmS s).2).1=true
     ·rw [if_pos hc] at hz ⊢
      obtain ⟨i1,i2,i3,i4,i5⟩:=Zk hc
      obtain ⟨g,a,n1,n2,n3,n4,n5⟩:=Dy i3
      have hsn:(nmS s).2.l <:+ s.l:=by rw [n1];exact List.suffix_cons _ _
      have hsl:=congrArg List.length n1
      rw [List.length_cons] at hsl
      obtain ⟨l1,l2,l3⟩:=listE (deepK hl) hdok _ (by omega) ((hg.suf hsn).suf i1) i4 hz
      refine bare ((l1.trans i1).trans hsn) (by show 5≤6;omega) ?_ ?_
      ·rw [i5,n5] at l2
       rw [n3]
       exact .call ((hg (g,a) (by rw [n1];exact List.mem_cons_self ..)).1 n2) (fun k hk=>(l2 k hk).1) (fun k hk=>(l2 k hk).2)
      ·rw [sgN_call]
       simp only [List.length_cons,List.length_append,List.length_nil]
       omega
     ·rw [if_neg hc] at hz ⊢
      obtain ⟨g,a,n1,n2,n3,n4,n5⟩:=Dy hz
      have hsl:=congrArg List.length n1
      rw [List.length_cons] at hsl
      refine bare (by simp only;rw [n1];exact List.suffix_cons _ _) (by show 5≤6;omega) ?_ ?_
      ·rw [n3]
       exact .var ((hg (g,a) (by rw [n1];exact List.mem_cons_self ..)).1 n2)
      ·rw [Y4]
       simp [Bz]
       omega
theorem unE: ∀ n,GoodE n 5 (unS n)
 | 0=>fun s hN hg he hz=>by omega
 | n+1=>fun s hN hg he hz=>by
  have ih:=unE n
  have one: ∀ x:List UInt8,(x= [110,111,116]∨x= [45])→(isS x s).1=true→(J8 (unS n) (isS x s).2).2.e=0→RE 5 s (J8 (unS n) (isS x s).2).2 (.mk 14 x 0 [(J8 (unS n) (isS x s).2).1]):=by
   intro x hx hi hz
   obtain ⟨i1,i2,i3,i4,i5⟩:=Zk hi
   obtain ⟨h1,h2,h3⟩:=deepS_yes hz
   rw [h3] at hz ⊢
   obtain ⟨r1,⟨dn,r2,r3⟩,r4⟩:=ih ⟨(isS x s).2.l,(isS x s).2.d+1,0⟩ (by simp only;omega) (hg.suf i1) rfl hz
   simp only at r1 r2 r4 h2
   rw [i5] at r1 r2 r3 r4 h2 ⊢
   refine ⟨r1.trans i1,⟨s.d,.inl ⟨Nat.le_refl _,rfl⟩,.un hx h2 r2 r3⟩,?_⟩
   rw [Bj (r:=5) (by show 5≤5;omega),sgN_un,List.length_cons]
   simp only
   omega
  unfold unS at hz ⊢
  by_cases h1:(isS [110,111,116] s).1=true
  ·rw [if_pos h1] at hz ⊢
   exact one _ (.inl rfl) h1 hz
  ·rw [if_neg h1] at hz ⊢
   by_cases h2:(isS [45] s).1=true
   ·rw [if_pos h2] at hz ⊢
    exact one _ (.inr rfl) h2 hz
   ·rw [if_neg h2] at hz ⊢
    exact primE ih (Bh n) s hN hg he hz
theorem exE {s:PSt} (hg:K3 s.l) (he:s.e=0) (hz:(exS s).2.e=0):(exS s).2.l <:+ s.l∧FitE s.d (exS s).1∧(sgN (exS s).1).length+(exS s).2.l.length≤s.l.length:=by
 obtain ⟨h1,⟨dn,h2,h3⟩,h4⟩:=levE (unE (s.l.length+1)) (Bh _) 5 (Nat.le_refl _) s (Nat.lt_succ_self _) hg he hz
 rw [Bj (Nat.zero_le _)] at h4
 refine ⟨h1,?_,h4⟩
 rcases h2 with ⟨_,rfl⟩|⟨q,_⟩
 ·exact h3
 ·omega
theorem stE {st:PSt→Nd×PSt} {N:Nat} (hr:N8 N (FitS 0) st) (hok: ∀ s,Ok s (st s).2) (hlt: ∀ s,s.e=0→K3 s.l→s.l.length < N→(st s).2.e=0→(st s).2.l.length < s.l.length): ∀ (f:Nat) (out:List Nd) (s s0:PSt),s.l.length < N→K3 s.l→s.l <:+ s0.l→s.d=s0.d→(∀ k∈out,FitS 0 s0.d k)→(out.map fun n=>(sgN n).length).sum+s.l.length≤s0.l.length→(Xh st f out s).2.e=0→(s.e=0→s.l.length < f) →
  (Xh st f out s).2.l <:+ s0.l∧(∀ k∈(Xh st f out s).1,FitS 0 s0.d k)∧((Xh st f out s).1.map fun n=>(sgN n).length).sum+1+(Xh st f out s).2.l.length≤s0.l.length
 | 0,out,s,s0,hN,hg,hs,hd,hk,hc,hz,hf=>by
  rw [Xh] at hz
  have:=hf hz
  omega
 | f+1,out,s,s0,hN,hg,hs,hd,hk,hc,hz,hf=>by
  rw [Xh] at hz ⊢
  by_cases he:s.e=0
  ·rw [if_pos he] at hz ⊢
   have hf:=hf he
   by_cases hc1:(isS [125] s).1=true
   ·rw [if_pos hc1] at hz ⊢
    obtain ⟨i1,i2,i3,i4,i5⟩:=Zk hc1
    exact ⟨i1.trans hs,hk,by simp only;omega⟩
   ·rw [if_neg hc1] at hz ⊢
    have he2:=ok_e (Cc hok f (out++ [(st s).1]) (st s).2) hz
    obtain ⟨r1,r2,r3⟩:=hr s hN hg he he2
    have h4:=hlt s he hg hN he2
    have hdep:=(hok s).dep
    exact stE hr hok hlt f _ _ s0 (by omega) (hg.suf r1) (r1.trans hs) (by omega) (by
     intro k hm
     rcases List.mem_append.1 hm with hm|hm
     ·exact hk k hm
     ·rw [List.mem_singleton.1 hm,← hd];exact r2) (by simp only [List.map_append,List.map_cons,List.map_nil,List.sum_append,List.sum_cons,List.sum_nil];omega) hz (fun _=>by omega)
  ·rw [if_neg he] at hz
   exact absurd hz he
theorem flat_len: ∀ l:List Nd,(l.map sgN).flatten.length=(l.map fun n=>(sgN n).length).sum
 | []=>rfl
 | k::r=>by simp only [List.map_cons,List.flatten_cons,List.length_append,List.sum_cons,flat_len r]
theorem blockE {st:PSt→Nd×PSt} {N:Nat} (hr:N8 N (FitS 0) st) (hok: ∀ s,Ok s (st s).2) (hlt: ∀ s,s.e=0→K3 s.l→s.l.length < N→(st s).2.e=0→(st s).2.l.length < s.l.length):N8 (N+1) (FitS 1) (Df st):=fun s hN hg he hz=>by
 unfold Df at hz ⊢
 obtain ⟨d1,d2,d3⟩:=deepS_yes hz
 rw [d3] at hz ⊢
 obtain ⟨m0,m1,m2,m3,m4,m5⟩:=Zj d1
 simp only at hz ⊢
 obtain ⟨h1,h2,h3⟩:=stE hr hok hlt ((Jk [123] s).l.length+2) [] ⟨(Jk [123] s).l,(Jk [123] s).d+1,0⟩ ⟨(Jk [123] s).l,(Jk [123] s).d+1,0⟩ (by simp only;omega) (hg.suf m2) (List.suffix_refl _) rfl (fun k hk=>by cases hk) (by simp) hz (fun _=>by simp only;omega)
 simp only at h1 h2 h3
 rw [m5] at h1 h2 h3 d2 ⊢
 refine ⟨h1.trans m2,.block d2 h2,?_⟩
 rw [Y4]
 simp only [Bz,List.length_cons,List.length_append,List.length_nil,flat_len]
 omega
theorem ifE {bl:PSt→Nd×PSt} {N:Nat} (hb:N8 N (FitS 1) bl) (hok: ∀ s,Ok s (bl s).2) (s:PSt) (hN:s.l.length < N) (hg:K3 s.l) (he:s.e=0) (hz:(ifS bl s).2.e=0):(ifS bl s).2.l <:+ s.l∧FitS 0 s.d (ifS bl s).1∧(sgN (ifS bl s).1).length+(ifS bl s).2.l.length≤s.l.length+1:=by
 unfold ifS at hz ⊢
 by_cases hc:(isS [101,108,115,101] (bl (exS s).2).2).1=true
 ·rw [if_pos hc] at hz ⊢
  obtain ⟨i1,i2,i3,i4,i5⟩:=Zk hc
  have e1:=ok_e (hok (exS s).2) i3
  obtain ⟨x1,x2,x3⟩:=exE hg he e1
  have xd:=(Z7 s).dep
  have bd:=(hok (exS s).2).dep
  obtain ⟨b1,b2,b3⟩:=hb (exS s).2 (by omega) (hg.suf x1) e1 i3
  obtain ⟨c1,c2,c3⟩:=hb _ (by omega) ((hg.suf x1).suf b1 |>.suf i1) i4 hz
  refine ⟨((c1.trans i1).trans b1).trans x1,.if3 x2 (by rw [← xd];exact b2) (by rw [i5,bd,xd] at c2;exact c2),?_⟩
  rw [Y4]
  simp only [Bz,List.map_cons,List.map_nil,List.length_cons,List.length_append,List.length_nil,List.getD_cons_zero,List.getD_cons_succ,if_true]
  omega
 ·rw [if_neg hc] at hz ⊢
  have e1:=ok_e (hok (exS s).2) hz
  obtain ⟨x1,x2,x3⟩:=exE hg he e1
  have xd:=(Z7 s).dep
  obtain ⟨b1,b2,b3⟩:=hb (exS s).2 (by omega) (hg.suf x1) e1 hz
  refine ⟨b1.trans x1,.if2 x2 (by rw [← xd];exact b2),?_⟩
  rw [Y4]
  simp only [Bz,List.map_cons,List.map_nil,List.length_cons,List.length_append,List.length_nil,List.getD_cons_zero,List.getD_cons_succ]
  rw [if_neg (by decide)]
  simp only [List.length_nil]
  omega
theorem stmtE {bl:PSt→Nd×PSt} {N:Nat} (hb:N8 N (FitS 1) bl) (hok: ∀ s,Ok s (bl s).2):N8 (N+1) (FitS 0) (Zn bl):=fun s hN hg he hz=>by
 unfold Zn at hz ⊢
 by_cases h1:(isS [105,102] s).1=true
 ·rw [if_pos h1] at hz ⊢
  obtain ⟨i1,i2,i3,i4,i5⟩:=Zk h1
  obtain ⟨a1,a2,a3⟩:=ifE hb hok _ (by omega) (hg.suf i1) i4 hz
  exact ⟨a1.trans i1,by rw [← i5];exact a2,by omega⟩
 rw [if_neg h1] at hz ⊢
 by_cases h2:(isS [119,104,105,108,101] s).1=true
 ·rw [if_pos h2] at hz ⊢
  obtain ⟨i1,i2,i3,i4,i5⟩:=Zk h2
  have e1:=ok_e (hok (exS (isS [119,104,105,108,101] s).2).2) hz
  obtain ⟨x1,x2,x3⟩:=exE (hg.suf i1) i4 e1
  have xd:=(Z7 (isS [119,104,105,108,101] s).2).dep
  obtain ⟨b1,b2,b3⟩:=hb _ (by omega) ((hg.suf i1).suf x1) e1 hz
  rw [xd,i5] at b2
  rw [i5] at x2
  refine ⟨(b1.trans x1).trans i1,.while_ x2 b2,?_⟩
  rw [Y4]
  simp only [Bz,List.map_cons,List.map_nil,List.length_cons,List.length_append,List.length_nil,List.getD_cons_zero,List.getD_cons_succ]
  omega
 rw [if_neg h2] at hz ⊢
 by_cases h3:(isS [115,116,111,112] s).1=true
 ·rw [if_pos h3] at hz ⊢
  obtain ⟨i1,i2,i3,i4,i5⟩:=Zk h3
  obtain ⟨m0,m1,m2,m3,m4,m5⟩:=Zj hz
  refine ⟨m2.trans i1,.stop,?_⟩
  rw [Y4]
  simp only [Bz,List.length_cons,List.length_nil]
  omega
 rw [if_neg h3] at hz ⊢
 by_cases h4:isSet s=true
 ·rw [if_pos h4] at hz ⊢
  obtain ⟨m0,m1,m2,m3,m4,m5⟩:=Zj hz
  have e1:=ok_e (Z7 _) m4
  obtain ⟨k0,k1,k2,k3,k4,k5⟩:=Zj e1
  obtain ⟨g,a,n1,n2,n3,n4,n5⟩:=Dy k4
  have hsn:(nmS s).2.l <:+ s.l:=by rw [n1];exact List.suffix_cons _ _
  have hsl:=congrArg List.length n1
  rw [List.length_cons] at hsl
  obtain ⟨x1,x2,x3⟩:=exE ((hg.suf hsn).suf k2) e1 m4
  rw [k5,n5] at x2
  refine ⟨((m2.trans x1).trans k2).trans hsn,?_,?_⟩
  ·simp only
   rw [n3]
   exact .set ((hg (g,a) (by rw [n1];exact List.mem_cons_self ..)).1 n2) x2
  ·rw [Y4]
   simp only [Bz,List.map_cons,List.map_nil,List.length_cons,List.length_append,List.length_nil,List.getD_cons_zero]
   omega
 rw [if_neg h4] at hz ⊢
 obtain ⟨m0,m1,m2,m3,m4,m5⟩:=Zj hz
 obtain ⟨x1,x2,x3⟩:=exE hg he m4
 refine ⟨m2.trans x1,.do_ x2,?_⟩
 rw [Y4]
 simp only [Bz,List.map_cons,List.map_nil,List.length_cons,List.length_append,List.length_nil,List.getD_cons_zero]
 omega
theorem stmt_lt {bl:PSt→Nd×PSt} {N:Nat} (hb:N8 N (FitS 1) bl) (hok: ∀ s,Ok s (bl s).2) (s:PSt) (he:s.e=0) (hg:K3 s.l) (hN:s.l.length < N+1) (hz:(Zn bl s).2.e=0):(Zn bl s).2.l.length < s.l.length:=by
 obtain ⟨h1,h2,h3⟩:=stmtE hb hok s hN hg he hz
 have:1≤(sgN (Zn bl s).1).length:=by
  generalize (Zn bl s).1=n at h2
  cases h2 <;> rw [Y4] <;> simp [Bz]
 omega
theorem blE: ∀ n,N8 n (FitS 1) (blS n)
 | 0=>fun s hN hg he hz=>by omega
 | n+1=>fun s hN hg he hz=>by
  have ih:=blE n
  have h:=blockE (stmtE ih (Ks n)) (stmtS_ok (Ks n)) (stmt_lt ih (Ks n))
  exact h s (by omega) hg he hz
theorem varE (N:Nat):N8 N (fun _ n=> ∃ y,n= .mk 11 y 0 []∧U7 (nmG y)) varS:=fun s hN hg he hz=>by
 unfold varS at hz ⊢
 obtain ⟨g,a,n1,n2,n3,n4,n5⟩:=Dy hz
 have hsl:=congrArg List.length n1
 rw [List.length_cons] at hsl
 refine ⟨by simp only;rw [n1];exact List.suffix_cons _ _,⟨g.text,by simp only;rw [n3],(hg (g,a) (by rw [n1];exact List.mem_cons_self ..)).1 n2⟩,?_⟩
 rw [Y4]
 simp [Bz]
 omega
theorem vars_of: ∀ l:List Nd,(∀ k∈l,∃ y,k= .mk 11 y 0 []∧U7 (nmG y))→ ∃ ys:List (List UInt8),l=ys.map (fun y=> .mk 11 y 0 [])∧ ∀ y∈ys,U7 (nmG y)
 | [],_=>⟨[],rfl,fun y h=>by cases h⟩
 | k::r,h=>by
  obtain ⟨y,h1,h2⟩:=h k (List.mem_cons_self ..)
  obtain ⟨ys,h3,h4⟩:=vars_of r fun k hk=>h k (List.mem_cons_of_mem _ hk)
  refine ⟨y::ys,by rw [h1,h3];rfl,fun z hz=> ?_⟩
  rcases List.mem_cons.1 hz with rfl|hz
  ·exact h2
  ·exact h4 z hz
theorem onE (s:PSt) (hg:K3 s.l) (he:s.e=0) (hd:s.d=0) (hz:(onS s).2.e=0):(onS s).2.l <:+ s.l∧FitO (onS s).1∧(sgN (onS s).1).length+(onS s).2.l.length≤s.l.length∧(onS s).2.l.length < s.l.length:=by
 unfold onS at hz ⊢
 simp only at hz ⊢
 have e2:=ok_e (Ks _ _) hz
 have e1:=ok_e (Br _ fun s' _=>B6 s') e2
 obtain ⟨k0,k1,k2,k3,k4,k5⟩:=Zj e1
 obtain ⟨g,a,n1,n2,n3,n4,n5⟩:=Dy k4
 obtain ⟨m0,m1,m2,m3,m4,m5⟩:=Zj n4
 have hsn:(nmS (Jk [111,110] s)).2.l <:+ (Jk [111,110] s).l:=by rw [n1];exact List.suffix_cons _ _
 have hsl:=congrArg List.length n1
 rw [List.length_cons] at hsl
 obtain ⟨l1,l2,l3⟩:=listE (varE (s.l.length+1)) B6 _ (by omega) (((hg.suf m2).suf hsn).suf k2) e1 e2
 have ld:=(Br (Jk [40] (nmS (Jk [111,110] s)).2) fun s' _=>B6 s').dep
 have l1':=l1.length_le
 obtain ⟨b1,b2,b3⟩:=blE ((Y6 varS (Jk [40] (nmS (Jk [111,110] s)).2)).2.l.length+1) _ (Nat.lt_succ_self _) ((((hg.suf m2).suf hsn).suf k2).suf l1) e2 hz
 rw [ld,k5,n5,m5,hd] at b2
 obtain ⟨ys,v1,v2⟩:=vars_of _ l2
 refine ⟨(((b1.trans l1).trans k2).trans hsn).trans m2,⟨g.text,ys,_,?_,(hg (g,a) (m2.subset (by rw [n1];exact List.mem_cons_self ..))).1 n2,v2,b2⟩,?_,?_⟩
 ·rw [n3,v1]
 ·rw [Y4]
  simp only [Bz,List.map_append,List.map_cons,List.map_nil,List.dropLast_concat,List.getLastD_concat,List.length_cons,List.length_append,List.length_nil]
  omega
 ·omega
theorem scE: ∀ (f:Nat) (out:List Nd) (s s0:PSt),K3 s.l→s.l <:+ s0.l→s.d=0→(∀ k∈out,FitO k)→(out.map fun n=>(sgN n).length).sum+s.l.length≤s0.l.length→(scLoop f out s).2.e=0→(s.e=0→s.l.length < f) →
  (∀ k∈(scLoop f out s).1,FitO k)∧((scLoop f out s).1.map fun n=>(sgN n).length).sum+(scLoop f out s).2.l.length≤s0.l.length∧endS (scLoop f out s).2=true∧(scLoop f out s).2.l <:+ s0.l
 | 0,out,s,s0,hg,hs,hd,hk,hc,hz,hf=>by
  rw [scLoop] at hz
  have:=hf hz
  omega
 | f+1,out,s,s0,hg,hs,hd,hk,hc,hz,hf=>by
  rw [scLoop] at hz ⊢
  by_cases he:s.e=0∧endS s=false
  ·rw [if_pos he] at hz ⊢
   have hf:=hf he.1
   have e2:=ok_e (scLoop_ok f (out++ [(onS s).1]) (onS s).2) hz
   obtain ⟨r1,r2,r3,r4⟩:=onE s hg he.1 hd e2
   have hdep:=(onS_ok s).dep
   exact scE f _ _ s0 (hg.suf r1) (r1.trans hs) (by omega) (by
     intro k hm
     rcases List.mem_append.1 hm with hm|hm
     ·exact hk k hm
     ·rw [List.mem_singleton.1 hm];exact r2) (by simp only [List.map_append,List.map_cons,List.map_nil,List.sum_append,List.sum_cons,List.sum_nil];omega) hz (fun _=>by omega)
  ·rw [if_neg he] at hz ⊢
   refine ⟨hk,hc,?_,hs⟩
   cases h:endS s with
   | true=>rfl
   | false=>exact absurd ⟨hz,h⟩ he
theorem numGo_le {most:Int}: ∀ (l:List UInt8) (n x:Int),n≤most→Nz most l n=some x→x≤most
 | [],n,x,hn,h=>by
  rw [Nz] at h
  injection h with h
  omega
 | b::r,n,x,hn,h=>by
  rw [Nz] at h
  split at h
  ·rename_i hc
   exact numGo_le r _ x hc.2 h
  ·cases h
theorem lexS_norm (u:List UInt8) (he:(Xl u).e=0):((Xl u).sg.kind=1→(Xl u).sg.num=0)∧((Xl u).sg.kind=4→(Xl u).sg.num=0)∧((Xl u).sg.kind=3→(Xl u).sg.num≤2147483648):=by
 cases u with
 | nil=>cases he
 | cons c r =>
  rw [Uw] at he ⊢
  by_cases h1:D7 c=true
  ·rw [if_pos h1] at he ⊢
   unfold Wt at he ⊢
   split
   ·exact ⟨fun _=>rfl,fun _=>rfl,fun h=>(by cases h)⟩
   ·split
    ·exact ⟨fun _=>rfl,fun _=>rfl,fun h=>(by cases h)⟩
    ·exact ⟨fun _=>rfl,fun _=>rfl,fun h=>(by cases h)⟩
  ·rw [if_neg h1] at he ⊢
   by_cases h2:Xt c=true
   ·rw [if_pos h2] at he ⊢
    unfold C8 at he ⊢
    split
    ·exact ⟨fun h=>(by cases h),fun h=>(by cases h),fun h=>(by cases h)⟩
    ·cases hn:num ((c::r).take (Jc Xt (c::r))) 2147483648 with
     | none=>exact ⟨fun h=>(by cases h),fun h=>(by cases h),fun h=>(by cases h)⟩
     | some x =>
      refine ⟨fun h=>(by cases h),fun h=>(by cases h),fun _=> ?_⟩
      unfold num at hn
      split at hn
      ·cases hn
      ·have:=numGo_le _ 0 x (by decide) hn
       simp only
       omega
   ·rw [if_neg h2] at he ⊢
    by_cases h3:c.toNat=34
    ·rw [if_pos h3] at he ⊢
     unfold textS at he ⊢
     split
     ·exact ⟨fun h=>(by cases h),fun h=>(by cases h),fun h=>(by cases h)⟩
     ·exact ⟨fun h=>(by cases h),fun _=>rfl,fun h=>(by cases h)⟩
    ·rw [if_neg h3] at he ⊢
     obtain ⟨m,_,h4,_⟩:=markS_ok _ _ he
     rw [h4]
     exact ⟨fun h=>(by cases h),fun h=>(by cases h),fun h=>(by cases h)⟩
theorem good_sg {t:List UInt8} (ht:t.length≤1200) {p:Sg×Nat} (h:SgOk t p):(p.1.kind=1→U7 (nmG p.1.text))∧(p.1.kind=4→U7 (txG p.1.text)∧p.1.text.length≤1200)∧(p.1.kind=3→p.1.num≤2147483648):=by
 have hol:=(own_len h).1
 obtain ⟨h1,h2,h3⟩:=h
 obtain ⟨n1,n2,n3⟩:=lexS_norm _ h2
 obtain ⟨o1,o2,o3,_⟩:=own_lex t p.2 h1 h2 (d:=32) (by decide)
 rw [h3] at o1 o2 o3 n1 n2 n3
 obtain ⟨⟨k,x,v⟩,a⟩:=p
 simp only at o1 o2 o3 n1 n2 n3 ⊢
 obtain ⟨c0,x0,c1,c2,c3⟩:=o2
 rw [c1,List.length_cons] at hol
 have o2: ∃ c y,C7 t (⟨k,x,v⟩,a)=c::y∧U5 c=false∧c.toNat≠35∧y.length≤5000:=⟨c0,x0,c1,c2,c3,by omega⟩
 clear c1 hol
 refine ⟨fun hk=> ?_,fun hk=> ?_,n3⟩
 ·subst hk
  have hv:=n1 rfl
  subst hv
  exact ⟨o1,o2⟩
 ·subst hk
  have hv:=n2 rfl
  subst hv
  exact ⟨⟨o1,o2⟩,by have:=o3 rfl;omega⟩
theorem good_signs {t:List UInt8} (ht:t.length≤1200) {l:List (Sg×Nat)} (h:Zr t= .inr l):K3 l:=by
 obtain ⟨b1,b2,b3,_⟩:=blanks_law 0 t l h
 obtain ⟨p,z,hp,hz⟩:=(Cd h).1
 intro q hq
 rw [hp] at hq b3
 rw [List.dropLast_concat] at b3
 rcases List.mem_append.1 hq with hq|hq
 ·exact good_sg ht (b3 q hq)
 ·rw [List.mem_singleton.1 hq,hz]
  exact ⟨fun h=>(by cases h),fun h=>(by cases h),fun h=>(by cases h)⟩
theorem back_fit {t:List UInt8} (ht:t.length≤1200) (h:(Zs t).2=0): ∃ ks,(Zs t).1= .mk 0 [] 0 ks∧(∀ k∈ks,FitO k)∧(sgN (Zs t).1).length≤1024∧dupB [] ks=false:=by
 unfold Zs at h ⊢
 split at h
 ·rename_i e hl;exact absurd h (signsB_err hl)
 ·rename_i l hl
  have hw:=Cd hl
  by_cases he:(X9 ⟨l,0,0⟩).2.e=0
  ·rw [if_neg (by rw [he];simp)] at h ⊢
   cases hd:dupB [] (X9 ⟨l,0,0⟩).1.kids with
   | true=>rw [hd,if_pos rfl] at h;cases h
   | false =>
    rw [if_neg (by decide)]
    refine ⟨(scLoop (l.length+2) [] ⟨l,0,0⟩).1,rfl,?_⟩
    have hz:(scLoop (l.length+2) [] ⟨l,0,0⟩).2.e=0:=he
    obtain ⟨c1,c2,c3,c4⟩:=scE (l.length+2) [] ⟨l,0,0⟩ ⟨l,0,0⟩ (good_signs ht hl) (List.suffix_refl _) rfl (fun k hk=>by cases hk) (by simp) hz (fun _=>by simp only;omega)
    have hwf:=(scLoop_ok (l.length+2) [] ⟨l,0,0⟩).wf hw.1
    obtain ⟨p,z,hp,_⟩:=hwf
    have hlen:=congrArg List.length hp
    rw [List.length_append,List.length_cons,List.length_nil] at hlen
    refine ⟨c1,?_,hd⟩
    show (sgN (.mk 0 [] 0 (scLoop (l.length+2) [] ⟨l,0,0⟩).1)).length≤1024
    rw [Y4]
    simp only [Bz,flat_len]
    have:=hw.2
    simp only at c2
    omega
  ·rw [if_pos he] at h
   exact absurd h he
end Go.Proofs.YtpbiblhkcomekaaGreat
