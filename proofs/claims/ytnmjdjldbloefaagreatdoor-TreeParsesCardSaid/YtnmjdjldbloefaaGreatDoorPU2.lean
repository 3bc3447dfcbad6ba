import Derived.Test.YtnmjdjldbloefaaGreatDoorPG4
import Derived.Test.YtnmjdjldbloefaaGreatDoorPH1
import Derived.Lib.ItoaNum
import Derived.Test.YtnmjdjldbloefaaGreatDoorPU1
import Derived.Test.YtnmjdjldbloefaaGreatDoorPH0
/- TreeBack, in plain words: a tree's signs; which trees a text may have. -/
namespace Go.Proofs.YtnmjdjldbloefaaGreatDoor
open Go Go.RowKit
set_option linter.unusedSimpArgs false
set_option linter.unusedVariables false
set_option maxRecDepth 20000
def wdG (x:List UInt8):Sg:=⟨2,x,0⟩
def mkG (x:List UInt8):Sg:=⟨5,x,0⟩
def nmG (x:List UInt8):Sg:=⟨1,x,0⟩
def txG (x:List UInt8):Sg:=⟨4,x,0⟩
def nuG (v:Nat):Sg:=⟨3,[],v⟩
def opG (x:List UInt8):Sg:=if wordsL.contains x then wdG x else mkG x
def lvO (x:List UInt8):Nat:=if (opL 0).contains x then 0 else if (opL 1).contains x then 1 else if (opL 2).contains x then 2 else if (opL 3).contains x then 3 else 4
def rankN:Nd→Nat
 | .mk op tx _ _=>if op=13 then lvO tx else if op=14 then 5 else 6
def rowG:List (List Sg)→List Sg
 | []=> []
 | [x]=>x
 | x::y::r=>x++mkG [44]::rowG (y::r)
def brG (b:Bool) (l:List Sg):List Sg:=if b then mkG [40]::(l++ [mkG [41]]) else l
def raO (i:Nat):Nat:=if i=2 then 3 else i
def X4 (op:Nat) (tx:List UInt8) (nm:Nat) (rs:List Nat) (L:List (List Sg)):List Sg :=
 match op with
 | 0=>L.flatten
 | 1=>wdG [111,110]::nmG tx::mkG [40]::(rowG L.dropLast++mkG [41]::L.getLastD [])
 | 2=>mkG [123]::(L.flatten++ [mkG [125]])
 | 3=>nmG tx::mkG [61]::(L.getD 0 []++ [mkG [59]])
 | 4=>L.getD 0 []++ [mkG [59]]
 | 5=>wdG [105,102]::(L.getD 0 []++(L.getD 1 []++(if L.length=3 then wdG [101,108,115,101]::L.getD 2 [] else [])))
 | 6=>wdG [119,104,105,108,101]::(L.getD 0 []++L.getD 1 [])
 | 7=> [wdG [115,116,111,112],mkG [59]]
 | 8=> [nuG nm]
 | 9=> [txG tx]
 | 10=> [wdG [110,105,108]]
 | 11=> [nmG tx]
 | 12=>nmG tx::mkG [40]::(rowG L++ [mkG [41]])
 | 13=>brG (decide (rs.getD 0 0 < raO (lvO tx))) (L.getD 0 [])++opG tx::brG (decide (rs.getD 1 0 < lvO tx+1)) (L.getD 1 [])
 | _=>opG tx::brG (decide (rs.getD 0 0 < 5)) (L.getD 0 [])
mutual
def sgN:Nd→List Sg
 | .mk op tx nm ks=>X4 op tx nm (ks.map rankN) (sgM ks)
def sgM:List Nd→List (List Sg)
 | []=> []
 | k::r=>sgN k::sgM r
end
theorem sgM_map: ∀ l:List Nd,sgM l=l.map sgN
 | []=>by rw [sgM];rfl
 | k::r=>by rw [sgM,sgM_map r];rfl
theorem Q2 (op:Nat) (tx:List UInt8) (nm:Nat) (ks:List Nd):sgN (.mk op tx nm ks)=X4 op tx nm (ks.map rankN) (ks.map sgN):=by rw [sgN,sgM_map]
def sgI (r:Nat) (n:Nd):List Sg:=brG (decide (rankN n < r)) (sgN n)
def Wh (g:Sg):List UInt8:=if g.kind=3 then Lib.decDigits g.num else if g.kind=4 then Wg g.text else g.text
def Yu (g:Sg):Prop:=(∀ r,Xr (Wh g++32::r)=⟨g,(Wh g).length,0⟩)∧ ∃ c x,Wh g=c::x∧Ku c=false∧c.toNat≠35∧x.length≤5000
def dpI (d r:Nat) (n:Nd) (dn:Nat):Prop:=(r≤rankN n∧dn=d)∨(rankN n < r∧d < 16∧dn=d+1)
inductive FitE:Nat→Nd→Prop where
 | num {d v:Nat} (h:v≤2147483648):FitE d (.mk 8 [] v [])
 | text {d:Nat} {x:List UInt8} (h:Yu (txG x)) (hl:x.length≤1200):FitE d (.mk 9 x 0 [])
 | nil {d:Nat}:FitE d (.mk 10 [] 0 [])
 | var {d:Nat} {x:List UInt8} (h:Yu (nmG x)):FitE d (.mk 11 x 0 [])
 | call {d:Nat} {x:List UInt8} {ks:List Nd} (h:Yu (nmG x)) (hd: ∀ k∈ks,d < 16) (hk: ∀ k∈ks,FitE (d+1) k):FitE d (.mk 12 x 0 ks)
 | bin {d da db:Nat} {x:List UInt8} {a b:Nd} (hx:x∈opL (lvO x)) (ha:dpI d (raO (lvO x)) a da) (fa:FitE da a) (hb:dpI d (lvO x+1) b db) (fb:FitE db b):FitE d (.mk 13 x 0 [a,b])
 | un {d dk:Nat} {x:List UInt8} {k:Nd} (hx:x= [110,111,116]∨x= [45]) (hd:d < 16) (hk:dpI (d+1) 5 k dk) (fk:FitE dk k):FitE d (.mk 14 x 0 [k])
inductive FitS:Nat→Nat→Nd→Prop where
 | set {d:Nat} {x:List UInt8} {n:Nd} (h:Yu (nmG x)) (hn:FitE d n):FitS 0 d (.mk 3 x 0 [n])
 | do_ {d:Nat} {n:Nd} (hn:FitE d n):FitS 0 d (.mk 4 [] 0 [n])
 | if2 {d:Nat} {n b:Nd} (hn:FitE d n) (hb:FitS 1 d b):FitS 0 d (.mk 5 [] 0 [n,b])
 | if3 {d:Nat} {n b c:Nd} (hn:FitE d n) (hb:FitS 1 d b) (hc:FitS 1 d c):FitS 0 d (.mk 5 [] 0 [n,b,c])
 | while_ {d:Nat} {n b:Nd} (hn:FitE d n) (hb:FitS 1 d b):FitS 0 d (.mk 6 [] 0 [n,b])
 | stop {d:Nat}:FitS 0 d (.mk 7 [] 0 [])
 | block {d:Nat} {ks:List Nd} (hd:d < 16) (hk: ∀ k∈ks,FitS 0 (d+1) k):FitS 1 d (.mk 2 [] 0 ks)
def FitO (n:Nd):Prop:= ∃ (x:List UInt8) (ys:List (List UInt8)) (b:Nd),n= .mk 1 x 0 (ys.map (fun y=> .mk 11 y 0 [])++ [b])∧Yu (nmG x)∧(∀ y∈ys,Yu (nmG y))∧FitS 1 0 b
theorem rank_le (n:Nd):rankN n≤6:=by
 obtain ⟨op,tx,nm,ks⟩:=n
 unfold rankN
 simp only
 split
 ·unfold lvO
  repeat' split
  all_goals omega
 ·split <;> omega
theorem dpI_mono {d r d':Nat} {n:Nd} {dn:Nat} (h:dpI d r n dn) (hd:d'≤d): ∃ dn',dpI d' r n dn'∧dn'≤dn:=by
 rcases h with ⟨h1,rfl⟩|⟨h1,h2,rfl⟩
 ·exact ⟨d',.inl ⟨h1,rfl⟩,hd⟩
 ·exact ⟨d'+1,.inr ⟨h1,by omega,rfl⟩,by omega⟩
theorem FitE.mono {d:Nat} {n:Nd} (h:FitE d n): ∀ {d':Nat},d'≤d→FitE d' n:=by
 induction h with
 | num h=>exact fun _=> .num h
 | text h hl=>exact fun _=> .text h hl
 | nil=>exact fun _=> .nil
 | var h=>exact fun _=> .var h
 | call h h16 hk ih=>exact fun hd=> .call h (fun k hm=>by have:=h16 k hm;omega) fun k hm=>ih k hm (by omega)
 | bin hx ha fa hb fb iha ihb =>
  intro d' hd
  obtain ⟨da',a1,a2⟩:=dpI_mono ha hd
  obtain ⟨db',b1,b2⟩:=dpI_mono hb hd
  exact .bin hx a1 (iha a2) b1 (ihb b2)
 | un hx hd hk fk ih =>
  intro d' hd'
  obtain ⟨dk',a1,a2⟩:=dpI_mono hk (show d'+1≤_+1 by omega)
  exact .un hx (by omega) a1 (ih a2)
def Wz (l:List (Sg×Nat)):Prop:= ∀ p∈l,(p.1.kind=1→Yu (nmG p.1.text))∧(p.1.kind=4→Yu (txG p.1.text)∧p.1.text.length≤1200)∧(p.1.kind=3→p.1.num≤2147483648)
theorem Wz.suf {l l':List (Sg×Nat)} (h:Wz l) (hs:l' <:+ l):Wz l':=fun p hp=>h p (hs.subset hp)
theorem Z9 {x:List UInt8} {s:PSt} (h:(isS x s).1=true):(isS x s).2.l <:+ s.l∧(isS x s).2.l.length+1=s.l.length∧s.e=0∧(isS x s).2.e=0∧(isS x s).2.d=s.d:=by
 obtain ⟨l,d,e⟩:=s
 cases l with
 | nil=>simp [isS] at h
 | cons q r =>
  obtain ⟨g,a⟩:=q
  unfold isS at h ⊢
  simp only at h ⊢
  split at h
  ·rename_i hc
   rw [if_pos hc]
   exact ⟨List.suffix_cons _ _,rfl,hc.1,hc.1,rfl⟩
  ·cases h
theorem Z7 {x:List UInt8} {s:PSt} (h:(Q5 x s).e=0):(isS x s).1=true∧Q5 x s=(isS x s).2∧(Q5 x s).l <:+ s.l∧(Q5 x s).l.length+1=s.l.length∧s.e=0∧(Q5 x s).d=s.d:=by
 unfold Q5 at h ⊢
 cases hi:(isS x s).1 with
 | true =>
  rw [if_pos rfl]
  obtain ⟨h1,h2,h3,h4,h5⟩:=Z9 hi
  exact ⟨rfl,rfl,h1,h2,h3,h5⟩
 | false =>
  rw [hi,if_neg (by decide)] at h
  unfold Yt at h
  split at h
  ·cases h
  ·rename_i hne;exact absurd h hne
theorem takeS_yes {k:Nat} {s s':PSt} {g:Sg} {a:Nat} (h:Xv k s=(some (g,a),s')):s.l=(g,a)::s'.l∧g.kind=k∧s.e=0∧s'.e=0∧s'.d=s.d:=by
 obtain ⟨l,d,e⟩:=s
 cases l with
 | nil=>cases h
 | cons q r =>
  obtain ⟨g1,a1⟩:=q
  unfold Xv at h
  simp only at h
  split at h
  ·rename_i hc
   simp only [Prod.mk.injEq,Option.some.injEq] at h
   obtain ⟨⟨rfl,rfl⟩,rfl⟩:=h
   exact ⟨rfl,hc.2,hc.1,hc.1,rfl⟩
  ·simp at h
theorem E4 {s:PSt} (h:(nmS s).2.e=0): ∃ g a,s.l=(g,a)::(nmS s).2.l∧g.kind=1∧(nmS s).1=g.text∧s.e=0∧(nmS s).2.d=s.d:=by
 unfold nmS at h ⊢
 split at h
 ·rename_i g a s' ht
  obtain ⟨h1,h2,h3,h4,h5⟩:=takeS_yes ht
  exact ⟨g,a,h1,h2,rfl,h3,h5⟩
 ·simp only at h
  unfold Yt at h
  split at h
  ·cases h
  ·rename_i hne;exact absurd h hne
theorem deepS_yes {rd:PSt→Nd×PSt} {s:PSt} (h:(Jq rd s).2.e=0):s.e=0∧s.d < 16∧Jq rd s=((rd ⟨s.l,s.d+1,0⟩).1,⟨(rd ⟨s.l,s.d+1,0⟩).2.l,(rd ⟨s.l,s.d+1,0⟩).2.d - 1,(rd ⟨s.l,s.d+1,0⟩).2.e⟩):=by
 unfold Jq at h ⊢
 have hE:(Kw s).e=0→s.e=0∧s.d < 16:=by
  unfold Kw
  split
  ·unfold Yt
   split
   ·intro h;cases h
   ·rename_i hne;intro h;exact absurd h hne
  ·rename_i hlt;intro h;exact ⟨h,by omega⟩
 by_cases he:(Kw s).e=0
 ·obtain ⟨h1,h2⟩:=hE he
  rw [if_neg (by rw [he];simp)] at h ⊢
  rw [h1]
  exact ⟨rfl,h2,rfl⟩
 ·rw [if_pos he] at h
  exact absurd h he
theorem opS_yes: ∀ {L:List (List UInt8)} {s s':PSt} {x:List UInt8},opS L s=(some x,s')→x∈L∧s'.l <:+ s.l∧s'.l.length+1=s.l.length∧s.e=0∧s'.e=0∧s'.d=s.d
 | [],s,s',x,h=>by cases h
 | y::r,s,s',x,h=>by
  unfold opS at h
  split at h
  ·rename_i hc
   simp only [Prod.mk.injEq,Option.some.injEq] at h
   obtain ⟨rfl,rfl⟩:=h
   obtain ⟨h1,h2,h3,h4,h5⟩:=Z9 hc
   exact ⟨List.mem_cons_self ..,h1,h2,h3,h4,h5⟩
  ·obtain ⟨h1,h2⟩:=opS_yes h
   exact ⟨List.mem_cons_of_mem _ h1,h2⟩
structure RE (r:Nat) (s s':PSt) (n:Nd):Prop where
 suf:s'.l <:+ s.l
 dep: ∃ dn,dpI s.d r n dn∧FitE dn n
 cnt:(sgI r n).length+s'.l.length≤s.l.length
def GoodE (N r:Nat) (rd:PSt→Nd×PSt):Prop:= ∀ s,s.l.length < N→Wz s.l→s.e=0→(rd s).2.e=0→RE r s (rd s).2 (rd s).1
theorem Nb (b:Bool) (l:List Sg):(brG b l).length=l.length+(if b then 2 else 0):=by
 cases b <;> simp [brG]
theorem Kg {r:Nat} {n:Nd} (h:r≤rankN n):sgI r n=sgN n:=by
 unfold sgI
 rw [decide_eq_false (by omega)]
 rfl
theorem sgI_le {r r':Nat} {n:Nd} (h:r'≤r):(sgI r' n).length≤(sgI r n).length:=by
 unfold sgI
 rw [Nb,Nb]
 by_cases h1:rankN n < r'
 ·rw [decide_eq_true h1,decide_eq_true (by omega)];exact Nat.le_refl _
 ·rw [decide_eq_false h1];simp
theorem RE.weak {r r':Nat} {s s':PSt} {n:Nd} (h:RE r s s' n) (hr:r'≤r):RE r' s s' n:=by
 obtain ⟨h1,⟨dn,h2,h3⟩,h4⟩:=h
 refine ⟨h1,?_,by have:=sgI_le (n:=n) hr;omega⟩
 rcases h2 with ⟨g1,rfl⟩|⟨g1,g2,rfl⟩
 ·exact ⟨_,.inl ⟨by omega,rfl⟩,h3⟩
 ·by_cases g:r'≤rankN n
  ·exact ⟨s.d,.inl ⟨g,rfl⟩,h3.mono (by omega)⟩
  ·exact ⟨s.d+1,.inr ⟨by omega,g2,rfl⟩,h3⟩
theorem lvO_of: ∀ i,i≤4→ ∀ x∈opL i,lvO x=i:=by
 intro i hi
 match i,hi with
 | 0,_=>decide
 | 1,_=>decide
 | 2,_=>decide
 | 3,_=>decide
 | 4,_=>decide
theorem Ua (x:List UInt8) (a b:Nd):sgN (.mk 13 x 0 [a,b])=sgI (raO (lvO x)) a++opG x::sgI (lvO x+1) b:=by rw [Q2];rfl
theorem Ct (x:List UInt8) (k:Nd):sgN (.mk 14 x 0 [k])=opG x::sgI 5 k:=by rw [Q2];rfl
theorem Um (x:List UInt8) (ks:List Nd):sgN (.mk 12 x 0 ks)=nmG x::mkG [40]::(rowG (ks.map sgN)++ [mkG [41]]):=by rw [Q2];rfl
theorem RE.bin {i:Nat} (hi:i≤4) {s0 s s1 s2:PSt} {out b:Nd} {x:List UInt8} (h1:RE (raO i) s0 s out) (hd:s.d=s0.d) (ho:opS (opL i) s=(some x,s1)) (h2:RE (i+1) s1 s2 b):RE i s0 s2 (.mk 13 x 0 [out,b]):=by
 obtain ⟨o1,o2,o3,o4,o5,o6⟩:=opS_yes ho
 obtain ⟨a1,⟨da,a2,a3⟩,a4⟩:=h1
 obtain ⟨b1,⟨db,b2,b3⟩,b4⟩:=h2
 have hx:=lvO_of i hi x o1
 have hr:rankN (.mk 13 x 0 [out,b])=i:=hx
 refine ⟨(b1.trans o2).trans a1,⟨s0.d,.inl ⟨by omega,rfl⟩,?_⟩,?_⟩
 ·rw [o6,hd] at b2
  exact .bin (by rw [hx];exact o1) (by rw [hx];exact a2) a3 (by rw [hx];exact b2) b3
 ·rw [Kg (by omega),Ua,hx,List.length_append,List.length_cons]
  omega
theorem lvE {N i:Nat} {nx:PSt→Nd×PSt} (hi:i≤4) (hn:GoodE N (i+1) nx) (hok: ∀ s,Ok s (nx s).2): ∀ (f:Nat) (out:Nd) (s s0:PSt),s.l.length < N→Wz s.l→RE (raO i) s0 s out→s.e=0→s.d=s0.d→(Xh i nx f out s).2.e=0→RE i s0 (Xh i nx f out s).2 (Xh i nx f out s).1
 | 0,out,s,s0,hN,hg,hr,he,hd,hz=>hr.weak (by unfold raO;split <;> omega)
 | f+1,out,s,s0,hN,hg,hr,he,hd,hz=>by
  unfold Xh at hz ⊢
  split at hz
  ·rename_i s1 ho
   have:=opS_no _ _ (by rw [ho])
   rw [ho] at this
   simp only at this
   subst this
   exact hr.weak (by unfold raO;split <;> omega)
  ·rename_i x s1 ho
   obtain ⟨o1,o2,o3,o4,o5,o6⟩:=opS_yes ho
   have ok:=hok s1
   split at hz
   ·rename_i h2
    rw [if_pos h2]
    exact hr.bin hi hd ho (hn s1 (by omega) (hg.suf o2) o5 hz)
   ·rename_i h2
    rw [if_neg h2]
    have hra:raO i=i:=by unfold raO;rw [if_neg h2]
    have hL:=Dh (i:=i) f (.mk 13 x 0 [out,(nx s1).1]) (nx s1).2 (fun s' _=>hok s')
    have he2:(nx s1).2.e=0:=by
     by_cases q:(nx s1).2.e=0
     ·exact q
     ·have:=hL.err q;omega
    have hn2:=hn s1 (by omega) (hg.suf o2) o5 he2
    have hb:=hr.bin hi hd ho hn2
    refine lvE hi hn hok f _ _ s0 (by have:=hn2.suf.length_le;omega) ((hg.suf o2).suf hn2.suf) (by rw [hra];exact hb) he2 ?_ hz
    have:=ok.dep
    omega
theorem levE {N:Nat} {un:PSt→Nd×PSt} (hu:GoodE N 5 un) (hok: ∀ s,Ok s (un s).2): ∀ k,k≤5→GoodE N (5 - k) (Jz un k)
 | 0,_=>hu
 | k+1,hk=>fun s hN hg he hz=>by
  have ih:=levE hu hok k (by omega)
  have hok2: ∀ s,Ok s (Jz un k s).2:=fun s=>K6 k s fun s' _=>hok s'
  unfold Jz at hz ⊢
  have e1:5 - (k+1)=4 - k:=by omega
  have e2:5 - k=4 - k+1:=by omega
  rw [e2] at ih
  rw [e1]
  have he2:(Jz un k s).2.e=0:=by
   by_cases q:(Jz un k s).2.e=0
   ·exact q
   ·have:=(Dh (i:=4 - k) (nx:=Jz un k) ((Jz un k s).2.l.length+1) (Jz un k s).1 (Jz un k s).2 (fun s' _=>hok2 s')).err q
    omega
  have h1:=ih s hN hg he he2
  exact lvE (by omega) ih hok2 _ _ _ s (by have:=h1.suf.length_le;omega) (hg.suf h1.suf) (h1.weak (by unfold raO;split <;> omega)) he2 (hok2 s).dep hz
theorem ok_e {s s':PSt} (h:Ok s s') (he:s'.e=0):s.e=0:=by
 by_cases q:s.e=0
 ·exact q
 ·have:=h.err q;omega
def sumG (l:List Nd):Nat:=(l.map fun n=>(sgN n).length+1).sum
theorem sumG_snoc (l:List Nd) (n:Nd):sumG (l++ [n])=sumG l+((sgN n).length+1):=by unfold sumG;simp
theorem rowG_len: ∀ l:List Nd,(rowG (l.map sgN)).length+1=(if l= [] then 1 else sumG l)
 | []=>rfl
 | [x]=>by simp [rowG,sumG]
 | x::y::r=>by
  have ih:=rowG_len (y::r)
  rw [if_neg (by simp)] at ih ⊢
  simp only [List.map_cons] at ih ⊢
  rw [rowG,List.length_append,List.length_cons]
  simp only [sumG,List.map_cons,List.sum_cons] at ih ⊢
  omega
def Ci (N:Nat) (F:Nat→Nd→Prop) (rd:PSt→Nd×PSt):Prop:= ∀ s,s.l.length < N→Wz s.l→s.e=0→(rd s).2.e=0→(rd s).2.l <:+ s.l∧F s.d (rd s).1∧(sgN (rd s).1).length+(rd s).2.l.length≤s.l.length
theorem lsE {N:Nat} {F:Nat→Nd→Prop} {rd:PSt→Nd×PSt} (hr:Ci N F rd) (hok: ∀ s,Ok s (rd s).2): ∀ (f:Nat) (out:List Nd) (s s0:PSt),s.l.length < N→Wz s.l→s.l <:+ s0.l→s.d=s0.d→(∀ k∈out,F s0.d k)→sumG out+s.l.length≤s0.l.length→(J4 rd f out s).2.e=0→(s.e=0→s.l.length < f) →
  (J4 rd f out s).2.l <:+ s0.l∧(∀ k∈(J4 rd f out s).1,F s0.d k)∧sumG (J4 rd f out s).1+(J4 rd f out s).2.l.length≤s0.l.length∧(J4 rd f out s).1≠ []
 | 0,out,s,s0,hN,hg,hs,hd,hk,hc,hz,hf=>by
  rw [J4] at hz
  have:=hf hz
  omega
 | f+1,out,s,s0,hN,hg,hs,hd,hk,hc,hz,hf=>by
  rw [J4] at hz ⊢
  by_cases he:s.e=0
  ·rw [if_pos he] at hz ⊢
   have hf:=hf he
   by_cases hc1:(isS [41] (rd s).2).1=true
   ·rw [if_pos hc1] at hz ⊢
    obtain ⟨i1,i2,i3,i4,i5⟩:=Z9 hc1
    obtain ⟨r1,r2,r3⟩:=hr s hN hg he i3
    refine ⟨(i1.trans r1).trans hs,?_,?_,by simp⟩
    ·intro k hm
     rcases List.mem_append.1 hm with hm|hm
     ·exact hk k hm
     ·rw [List.mem_singleton.1 hm,← hd];exact r2
    ·simp only [sumG_snoc]
     omega
   ·rw [if_neg hc1] at hz ⊢
    have hm:=ok_e (lsLoop_ok (rd:=rd) f (out++ [(rd s).1]) (Q5 [44] (rd s).2) fun s' _=>hok s') hz
    obtain ⟨m0,m1,m2,m3,m4,m5⟩:=Z7 hm
    obtain ⟨r1,r2,r3⟩:=hr s hN hg he m4
    have hdep:=(hok s).dep
    exact lsE hr hok f _ _ s0 (by omega) ((hg.suf r1).suf m2) ((m2.trans r1).trans hs) (by omega) (by
     intro k hm
     rcases List.mem_append.1 hm with hm|hm
     ·exact hk k hm
     ·rw [List.mem_singleton.1 hm,← hd];exact r2) (by rw [sumG_snoc];omega) hz (fun _=>by omega)
  ·rw [if_neg he] at hz
   exact absurd hz he
theorem listE {N:Nat} {F:Nat→Nd→Prop} {rd:PSt→Nd×PSt} (hr:Ci N F rd) (hok: ∀ s,Ok s (rd s).2) (s:PSt) (hN:s.l.length < N) (hg:Wz s.l) (he:s.e=0) (hz:(Xt rd s).2.e=0) :
  (Xt rd s).2.l <:+ s.l∧(∀ k∈(Xt rd s).1,F s.d k)∧(rowG ((Xt rd s).1.map sgN)).length+1+(Xt rd s).2.l.length≤s.l.length:=by
 unfold Xt at hz ⊢
 by_cases hc:(isS [41] s).1=true
 ·rw [if_pos hc] at hz ⊢
  obtain ⟨i1,i2,i3,i4,i5⟩:=Z9 hc
  exact ⟨i1,fun k hk=>by simp at hk,by simp [rowG];omega⟩
 ·rw [if_neg hc] at hz ⊢
  obtain ⟨h1,h2,h3,h4⟩:=lsE hr hok (s.l.length+2) [] s s hN hg (List.suffix_refl _) rfl (fun k hk=>by cases hk) (by simp [sumG]) hz (fun _=>by omega)
  refine ⟨h1,h2,?_⟩
  rw [rowG_len,if_neg h4]
  exact h3
theorem deepK {N:Nat} {rd:PSt→Nd×PSt} (h:GoodE N 0 rd):Ci N (fun d k=>d < 16∧FitE (d+1) k) (Jq rd):=fun s hN hg he hz=>by
 obtain ⟨h1,h2,h3⟩:=deepS_yes hz
 rw [h3] at hz ⊢
 obtain ⟨r1,⟨dn,r2,r3⟩,r4⟩:=h ⟨s.l,s.d+1,0⟩ hN hg rfl hz
 rw [Kg (Nat.zero_le _)] at r4
 refine ⟨r1,⟨h2,?_⟩,r4⟩
 rcases r2 with ⟨_,rfl⟩|⟨q,_⟩
 ·exact r3
 ·omega
theorem primE {N:Nat} {un:PSt→Nd×PSt} (hu:GoodE N 5 un) (hok: ∀ s,Ok s (un s).2):GoodE (N+1) 5 (Wc un):=fun s hN hg he hz=>by
 have hl:=levE hu hok 5 (Nat.le_refl _)
 have hlok: ∀ s,Ok s (Jz un 5 s).2:=fun s=>K6 5 s fun s' _=>hok s'
 have hdok: ∀ s,Ok s (Jq (Jz un 5) s).2:=fun s=>Be s fun s' _=>hlok s'
 have bare: ∀ {n:Nd} {s':PSt},s'.l <:+ s.l→5≤rankN n→FitE s.d n→(sgN n).length+s'.l.length≤s.l.length→RE 5 s s' n:=fun h1 h2 h3 h4=>⟨h1,⟨_,.inl ⟨h2,rfl⟩,h3⟩,by rw [Kg h2];exact h4⟩
 unfold Wc at hz ⊢
 split at hz
 ·rename_i g a s' ht
  obtain ⟨t1,t2,t3,t4,t5⟩:=takeS_yes ht
  refine bare (by simp only;rw [t1];exact List.suffix_cons _ _) (by show 5≤6;omega) (.num ((hg (g,a) (by rw [t1];exact List.mem_cons_self ..)).2.2 t2)) ?_
  rw [t1,Q2]
  simp [X4]
  omega
 ·rename_i ht
  split at hz
  ·rename_i g a s' ht
   obtain ⟨t1,t2,t3,t4,t5⟩:=takeS_yes ht
   refine bare (by simp only;rw [t1];exact List.suffix_cons _ _) (by show 5≤6;omega) (.text ((hg (g,a) (by rw [t1];exact List.mem_cons_self ..)).2.1 t2).1 ((hg (g,a) (by rw [t1];exact List.mem_cons_self ..)).2.1 t2).2) ?_
   rw [t1,Q2]
   simp [X4]
   omega
  ·rename_i ht
   by_cases hn:(isS [110,105,108] s).1=true
   ·rw [if_pos hn]
    obtain ⟨i1,i2,i3,i4,i5⟩:=Z9 hn
    refine bare i1 (by show 5≤6;omega) .nil ?_
    rw [Q2]
    simp [X4]
    omega
   ·rw [if_neg hn] at hz ⊢
    by_cases hb:(isS [40] s).1=true
    ·rw [if_pos hb] at hz ⊢
     obtain ⟨i1,i2,i3,i4,i5⟩:=Z9 hb
     obtain ⟨m0,m1,m2,m3,m4,m5⟩:=Z7 hz
     have hd:=deepK hl
     obtain ⟨d1,⟨d2,d3⟩,d4⟩:=hd _ (by omega) (hg.suf i1) i4 m4
     refine ⟨(m2.trans d1).trans i1,?_,?_⟩
     all_goals simp only
     ·by_cases hr:5≤rankN (Jq (Jz un 5) (isS [40] s).2).1
      ·exact ⟨s.d,.inl ⟨hr,rfl⟩,d3.mono (by omega)⟩
      ·exact ⟨s.d+1,.inr ⟨by omega,by omega,rfl⟩,by rw [← i5];exact d3⟩
     ·have hle:(sgI 5 (Jq (Jz un 5) (isS [40] s).2).1).length≤(sgN (Jq (Jz un 5) (isS [40] s).2).1).length+2:=by
       unfold sgI
       rw [Nb]
       split <;> omega
      omega
    ·rw [if_neg hb] at hz ⊢
     by_cases hc:(isS [40] (nmS s).2).1=true
     ·rw [if_pos hc] at hz ⊢
      obtain ⟨i1,i2,i3,i4,i5⟩:=Z9 hc
      obtain ⟨g,a,n1,n2,n3,n4,n5⟩:=E4 i3
      have hsn:(nmS s).2.l <:+ s.l:=by rw [n1];exact List.suffix_cons _ _
      have hsl:=congrArg List.length n1
      rw [List.length_cons] at hsl
      obtain ⟨l1,l2,l3⟩:=listE (deepK hl) hdok _ (by omega) ((hg.suf hsn).suf i1) i4 hz
      refine bare ((l1.trans i1).trans hsn) (by show 5≤6;omega) ?_ ?_
      ·rw [i5,n5] at l2
       rw [n3]
       exact .call ((hg (g,a) (by rw [n1];exact List.mem_cons_self ..)).1 n2) (fun k hk=>(l2 k hk).1) (fun k hk=>(l2 k hk).2)
      ·rw [Um]
       simp only [List.length_cons,List.length_append,List.length_nil]
       omega
     ·rw [if_neg hc] at hz ⊢
      obtain ⟨g,a,n1,n2,n3,n4,n5⟩:=E4 hz
      have hsl:=congrArg List.length n1
      rw [List.length_cons] at hsl
      refine bare (by simp only;rw [n1];exact List.suffix_cons _ _) (by show 5≤6;omega) ?_ ?_
      ·rw [n3]
       exact .var ((hg (g,a) (by rw [n1];exact List.mem_cons_self ..)).1 n2)
      ·rw [Q2]
       simp [X4]
       omega
theorem unE: ∀ n,GoodE n 5 (unS n)
 | 0=>fun s hN hg he hz=>by omega
 | n+1=>fun s hN hg he hz=>by
  have ih:=unE n
  have one: ∀ x:List UInt8,(x= [110,111,116]∨x= [45])→(isS x s).1=true→(Jq (unS n) (isS x s).2).2.e=0→RE 5 s (Jq (unS n) (isS x s).2).2 (.mk 14 x 0 [(Jq (unS n) (isS x s).2).1]):=by
   intro x hx hi hz
   obtain ⟨i1,i2,i3,i4,i5⟩:=Z9 hi
   obtain ⟨h1,h2,h3⟩:=deepS_yes hz
   rw [h3] at hz ⊢
   obtain ⟨r1,⟨dn,r2,r3⟩,r4⟩:=ih ⟨(isS x s).2.l,(isS x s).2.d+1,0⟩ (by simp only;omega) (hg.suf i1) rfl hz
   simp only at r1 r2 r4 h2
   rw [i5] at r1 r2 r3 r4 h2 ⊢
   refine ⟨r1.trans i1,⟨s.d,.inl ⟨Nat.le_refl _,rfl⟩,.un hx h2 r2 r3⟩,?_⟩
   rw [Kg (r:=5) (by show 5≤5;omega),Ct,List.length_cons]
   simp only
   omega
  unfold unS at hz ⊢
  by_cases h1:(isS [110,111,116] s).1=true
  ·rw [if_pos h1] at hz ⊢
   exact one _ (.inl rfl) h1 hz
  ·rw [if_neg h1] at hz ⊢
   by_cases h2:(isS [45] s).1=true
   ·rw [if_pos h2] at hz ⊢
    exact one _ (.inr rfl) h2 hz
   ·rw [if_neg h2] at hz ⊢
    exact primE ih (Ng n) s hN hg he hz
theorem exE {s:PSt} (hg:Wz s.l) (he:s.e=0) (hz:(exS s).2.e=0):(exS s).2.l <:+ s.l∧FitE s.d (exS s).1∧(sgN (exS s).1).length+(exS s).2.l.length≤s.l.length:=by
 obtain ⟨h1,⟨dn,h2,h3⟩,h4⟩:=levE (unE (s.l.length+1)) (Ng _) 5 (Nat.le_refl _) s (Nat.lt_succ_self _) hg he hz
 rw [Kg (Nat.zero_le _)] at h4
 refine ⟨h1,?_,h4⟩
 rcases h2 with ⟨_,rfl⟩|⟨q,_⟩
 ·exact h3
 ·omega
theorem stE {st:PSt→Nd×PSt} {N:Nat} (hr:Ci N (FitS 0) st) (hok: ∀ s,Ok s (st s).2) (hlt: ∀ s,s.e=0→Wz s.l→s.l.length < N→(st s).2.e=0→(st s).2.l.length < s.l.length): ∀ (f:Nat) (out:List Nd) (s s0:PSt),s.l.length < N→Wz s.l→s.l <:+ s0.l→s.d=s0.d→(∀ k∈out,FitS 0 s0.d k)→(out.map fun n=>(sgN n).length).sum+s.l.length≤s0.l.length→(Xf st f out s).2.e=0→(s.e=0→s.l.length < f) →
  (Xf st f out s).2.l <:+ s0.l∧(∀ k∈(Xf st f out s).1,FitS 0 s0.d k)∧((Xf st f out s).1.map fun n=>(sgN n).length).sum+1+(Xf st f out s).2.l.length≤s0.l.length
 | 0,out,s,s0,hN,hg,hs,hd,hk,hc,hz,hf=>by
  rw [Xf] at hz
  have:=hf hz
  omega
 | f+1,out,s,s0,hN,hg,hs,hd,hk,hc,hz,hf=>by
  rw [Xf] at hz ⊢
  by_cases he:s.e=0
  ·rw [if_pos he] at hz ⊢
   have hf:=hf he
   by_cases hc1:(isS [125] s).1=true
   ·rw [if_pos hc1] at hz ⊢
    obtain ⟨i1,i2,i3,i4,i5⟩:=Z9 hc1
    exact ⟨i1.trans hs,hk,by simp only;omega⟩
   ·rw [if_neg hc1] at hz ⊢
    have he2:=ok_e (Ns hok f (out++ [(st s).1]) (st s).2) hz
    obtain ⟨r1,r2,r3⟩:=hr s hN hg he he2
    have h4:=hlt s he hg hN he2
    have hdep:=(hok s).dep
    exact stE hr hok hlt f _ _ s0 (by omega) (hg.suf r1) (r1.trans hs) (by omega) (by
     intro k hm
     rcases List.mem_append.1 hm with hm|hm
     ·exact hk k hm
     ·rw [List.mem_singleton.1 hm,← hd];exact r2) (by simp only [List.map_append,List.map_cons,List.map_nil,List.sum_append,List.sum_cons,List.sum_nil];omega) hz (fun _=>by omega)
  ·rw [if_neg he] at hz
   exact absurd hz he
theorem Fb: ∀ l:List Nd,(l.map sgN).flatten.length=(l.map fun n=>(sgN n).length).sum
 | []=>rfl
 | k::r=>by simp only [List.map_cons,List.flatten_cons,List.length_append,List.sum_cons,Fb r]
theorem blockE {st:PSt→Nd×PSt} {N:Nat} (hr:Ci N (FitS 0) st) (hok: ∀ s,Ok s (st s).2) (hlt: ∀ s,s.e=0→Wz s.l→s.l.length < N→(st s).2.e=0→(st s).2.l.length < s.l.length):Ci (N+1) (FitS 1) (B6 st):=fun s hN hg he hz=>by
 unfold B6 at hz ⊢
 obtain ⟨d1,d2,d3⟩:=deepS_yes hz
 rw [d3] at hz ⊢
 obtain ⟨m0,m1,m2,m3,m4,m5⟩:=Z7 d1
 simp only at hz ⊢
 obtain ⟨h1,h2,h3⟩:=stE hr hok hlt ((Q5 [123] s).l.length+2) [] ⟨(Q5 [123] s).l,(Q5 [123] s).d+1,0⟩ ⟨(Q5 [123] s).l,(Q5 [123] s).d+1,0⟩ (by simp only;omega) (hg.suf m2) (List.suffix_refl _) rfl (fun k hk=>by cases hk) (by simp) hz (fun _=>by simp only;omega)
 simp only at h1 h2 h3
 rw [m5] at h1 h2 h3 d2 ⊢
 refine ⟨h1.trans m2,.block d2 h2,?_⟩
 rw [Q2]
 simp only [X4,List.length_cons,List.length_append,List.length_nil,Fb]
 omega
theorem ifE {bl:PSt→Nd×PSt} {N:Nat} (hb:Ci N (FitS 1) bl) (hok: ∀ s,Ok s (bl s).2) (s:PSt) (hN:s.l.length < N) (hg:Wz s.l) (he:s.e=0) (hz:(ifS bl s).2.e=0):(ifS bl s).2.l <:+ s.l∧FitS 0 s.d (ifS bl s).1∧(sgN (ifS bl s).1).length+(ifS bl s).2.l.length≤s.l.length+1:=by
 unfold ifS at hz ⊢
 by_cases hc:(isS [101,108,115,101] (bl (exS s).2).2).1=true
 ·rw [if_pos hc] at hz ⊢
  obtain ⟨i1,i2,i3,i4,i5⟩:=Z9 hc
  have e1:=ok_e (hok (exS s).2) i3
  obtain ⟨x1,x2,x3⟩:=exE hg he e1
  have xd:=(Zn s).dep
  have bd:=(hok (exS s).2).dep
  obtain ⟨b1,b2,b3⟩:=hb (exS s).2 (by omega) (hg.suf x1) e1 i3
  obtain ⟨c1,c2,c3⟩:=hb _ (by omega) ((hg.suf x1).suf b1 |>.suf i1) i4 hz
  refine ⟨((c1.trans i1).trans b1).trans x1,.if3 x2 (by rw [← xd];exact b2) (by rw [i5,bd,xd] at c2;exact c2),?_⟩
  rw [Q2]
  simp only [X4,List.map_cons,List.map_nil,List.length_cons,List.length_append,List.length_nil,List.getD_cons_zero,List.getD_cons_succ,if_true]
  omega
 ·rw [if_neg hc] at hz ⊢
  have e1:=ok_e (hok (exS s).2) hz
  obtain ⟨x1,x2,x3⟩:=exE hg he e1
  have xd:=(Zn s).dep
  obtain ⟨b1,b2,b3⟩:=hb (exS s).2 (by omega) (hg.suf x1) e1 hz
  refine ⟨b1.trans x1,.if2 x2 (by rw [← xd];exact b2),?_⟩
  rw [Q2]
  simp only [X4,List.map_cons,List.map_nil,List.length_cons,List.length_append,List.length_nil,List.getD_cons_zero,List.getD_cons_succ]
  rw [if_neg (by decide)]
  simp only [List.length_nil]
  omega
theorem stmtE {bl:PSt→Nd×PSt} {N:Nat} (hb:Ci N (FitS 1) bl) (hok: ∀ s,Ok s (bl s).2):Ci (N+1) (FitS 0) (Zr bl):=fun s hN hg he hz=>by
 unfold Zr at hz ⊢
 by_cases h1:(isS [105,102] s).1=true
 ·rw [if_pos h1] at hz ⊢
  obtain ⟨i1,i2,i3,i4,i5⟩:=Z9 h1
  obtain ⟨a1,a2,a3⟩:=ifE hb hok _ (by omega) (hg.suf i1) i4 hz
  exact ⟨a1.trans i1,by rw [← i5];exact a2,by omega⟩
 rw [if_neg h1] at hz ⊢
 by_cases h2:(isS [119,104,105,108,101] s).1=true
 ·rw [if_pos h2] at hz ⊢
  obtain ⟨i1,i2,i3,i4,i5⟩:=Z9 h2
  have e1:=ok_e (hok (exS (isS [119,104,105,108,101] s).2).2) hz
  obtain ⟨x1,x2,x3⟩:=exE (hg.suf i1) i4 e1
  have xd:=(Zn (isS [119,104,105,108,101] s).2).dep
  obtain ⟨b1,b2,b3⟩:=hb _ (by omega) ((hg.suf i1).suf x1) e1 hz
  rw [xd,i5] at b2
  rw [i5] at x2
  refine ⟨(b1.trans x1).trans i1,.while_ x2 b2,?_⟩
  rw [Q2]
  simp only [X4,List.map_cons,List.map_nil,List.length_cons,List.length_append,List.length_nil,List.getD_cons_zero,List.getD_cons_succ]
  omega
 rw [if_neg h2] at hz ⊢
 by_cases h3:(isS [115,116,111,112] s).1=true
 ·rw [if_pos h3] at hz ⊢
  obtain ⟨i1,i2,i3,i4,i5⟩:=Z9 h3
  obtain ⟨m0,m1,m2,m3,m4,m5⟩:=Z7 hz
  refine ⟨m2.trans i1,.stop,?_⟩
  rw [Q2]
  simp only [X4,List.length_cons,List.length_nil]
  omega
 rw [if_neg h3] at hz ⊢
 by_cases h4:N8 s=true
 ·rw [if_pos h4] at hz ⊢
  obtain ⟨m0,m1,m2,m3,m4,m5⟩:=Z7 hz
  have e1:=ok_e (Zn _) m4
  obtain ⟨k0,k1,k2,k3,k4,k5⟩:=Z7 e1
  obtain ⟨g,a,n1,n2,n3,n4,n5⟩:=E4 k4
  have hsn:(nmS s).2.l <:+ s.l:=by rw [n1];exact List.suffix_cons _ _
  have hsl:=congrArg List.length n1
  rw [List.length_cons] at hsl
  obtain ⟨x1,x2,x3⟩:=exE ((hg.suf hsn).suf k2) e1 m4
  rw [k5,n5] at x2
  refine ⟨((m2.trans x1).trans k2).trans hsn,?_,?_⟩
  ·simp only
   rw [n3]
   exact .set ((hg (g,a) (by rw [n1];exact List.mem_cons_self ..)).1 n2) x2
  ·rw [Q2]
   simp only [X4,List.map_cons,List.map_nil,List.length_cons,List.length_append,List.length_nil,List.getD_cons_zero]
   omega
 rw [if_neg h4] at hz ⊢
 obtain ⟨m0,m1,m2,m3,m4,m5⟩:=Z7 hz
 obtain ⟨x1,x2,x3⟩:=exE hg he m4
 refine ⟨m2.trans x1,.do_ x2,?_⟩
 rw [Q2]
 simp only [X4,List.map_cons,List.map_nil,List.length_cons,List.length_append,List.length_nil,List.getD_cons_zero]
 omega
theorem stmt_lt {bl:PSt→Nd×PSt} {N:Nat} (hb:Ci N (FitS 1) bl) (hok: ∀ s,Ok s (bl s).2) (s:PSt) (he:s.e=0) (hg:Wz s.l) (hN:s.l.length < N+1) (hz:(Zr bl s).2.e=0):(Zr bl s).2.l.length < s.l.length:=by
 obtain ⟨h1,h2,h3⟩:=stmtE hb hok s hN hg he hz
 have:1≤(sgN (Zr bl s).1).length:=by
  generalize (Zr bl s).1=n at h2
  cases h2 <;> rw [Q2] <;> simp [X4]
 omega
theorem blE: ∀ n,Ci n (FitS 1) (blS n)
 | 0=>fun s hN hg he hz=>by omega
 | n+1=>fun s hN hg he hz=>by
  have ih:=blE n
  have h:=blockE (stmtE ih (Wm n)) (Ey (Wm n)) (stmt_lt ih (Wm n))
  exact h s (by omega) hg he hz
theorem varE (N:Nat):Ci N (fun _ n=> ∃ y,n= .mk 11 y 0 []∧Yu (nmG y)) varS:=fun s hN hg he hz=>by
 unfold varS at hz ⊢
 obtain ⟨g,a,n1,n2,n3,n4,n5⟩:=E4 hz
 have hsl:=congrArg List.length n1
 rw [List.length_cons] at hsl
 refine ⟨by simp only;rw [n1];exact List.suffix_cons _ _,⟨g.text,by simp only;rw [n3],(hg (g,a) (by rw [n1];exact List.mem_cons_self ..)).1 n2⟩,?_⟩
 rw [Q2]
 simp [X4]
 omega
theorem vars_of: ∀ l:List Nd,(∀ k∈l,∃ y,k= .mk 11 y 0 []∧Yu (nmG y))→ ∃ ys:List (List UInt8),l=ys.map (fun y=> .mk 11 y 0 [])∧ ∀ y∈ys,Yu (nmG y)
 | [],_=>⟨[],rfl,fun y h=>by cases h⟩
 | k::r,h=>by
  obtain ⟨y,h1,h2⟩:=h k (List.mem_cons_self ..)
  obtain ⟨ys,h3,h4⟩:=vars_of r fun k hk=>h k (List.mem_cons_of_mem _ hk)
  refine ⟨y::ys,by rw [h1,h3];rfl,fun z hz=> ?_⟩
  rcases List.mem_cons.1 hz with rfl|hz
  ·exact h2
  ·exact h4 z hz
theorem onE (s:PSt) (hg:Wz s.l) (he:s.e=0) (hd:s.d=0) (hz:(onS s).2.e=0):(onS s).2.l <:+ s.l∧FitO (onS s).1∧(sgN (onS s).1).length+(onS s).2.l.length≤s.l.length∧(onS s).2.l.length < s.l.length:=by
 unfold onS at hz ⊢
 simp only at hz ⊢
 have e2:=ok_e (Wm _ _) hz
 have e1:=ok_e (Us _ fun s' _=>Bp s') e2
 obtain ⟨k0,k1,k2,k3,k4,k5⟩:=Z7 e1
 obtain ⟨g,a,n1,n2,n3,n4,n5⟩:=E4 k4
 obtain ⟨m0,m1,m2,m3,m4,m5⟩:=Z7 n4
 have hsn:(nmS (Q5 [111,110] s)).2.l <:+ (Q5 [111,110] s).l:=by rw [n1];exact List.suffix_cons _ _
 have hsl:=congrArg List.length n1
 rw [List.length_cons] at hsl
 obtain ⟨l1,l2,l3⟩:=listE (varE (s.l.length+1)) Bp _ (by omega) (((hg.suf m2).suf hsn).suf k2) e1 e2
 have ld:=(Us (Q5 [40] (nmS (Q5 [111,110] s)).2) fun s' _=>Bp s').dep
 have l1':=l1.length_le
 obtain ⟨b1,b2,b3⟩:=blE ((Xt varS (Q5 [40] (nmS (Q5 [111,110] s)).2)).2.l.length+1) _ (Nat.lt_succ_self _) ((((hg.suf m2).suf hsn).suf k2).suf l1) e2 hz
 rw [ld,k5,n5,m5,hd] at b2
 obtain ⟨ys,v1,v2⟩:=vars_of _ l2
 refine ⟨(((b1.trans l1).trans k2).trans hsn).trans m2,⟨g.text,ys,_,?_,(hg (g,a) (m2.subset (by rw [n1];exact List.mem_cons_self ..))).1 n2,v2,b2⟩,?_,?_⟩
 ·rw [n3,v1]
 ·rw [Q2]
  simp only [X4,List.map_append,List.map_cons,List.map_nil,List.dropLast_concat,List.getLastD_concat,List.length_cons,List.length_append,List.length_nil]
  omega
 ·omega
theorem scE: ∀ (f:Nat) (out:List Nd) (s s0:PSt),Wz s.l→s.l <:+ s0.l→s.d=0→(∀ k∈out,FitO k)→(out.map fun n=>(sgN n).length).sum+s.l.length≤s0.l.length→(scLoop f out s).2.e=0→(s.e=0→s.l.length < f) →
  (∀ k∈(scLoop f out s).1,FitO k)∧((scLoop f out s).1.map fun n=>(sgN n).length).sum+(scLoop f out s).2.l.length≤s0.l.length∧Ej (scLoop f out s).2=true∧(scLoop f out s).2.l <:+ s0.l
 | 0,out,s,s0,hg,hs,hd,hk,hc,hz,hf=>by
  rw [scLoop] at hz
  have:=hf hz
  omega
 | f+1,out,s,s0,hg,hs,hd,hk,hc,hz,hf=>by
  rw [scLoop] at hz ⊢
  by_cases he:s.e=0∧Ej s=false
  ·rw [if_pos he] at hz ⊢
   have hf:=hf he.1
   have e2:=ok_e (scLoop_ok f (out++ [(onS s).1]) (onS s).2) hz
   obtain ⟨r1,r2,r3,r4⟩:=onE s hg he.1 hd e2
   have hdep:=(onS_ok s).dep
   exact scE f _ _ s0 (hg.suf r1) (r1.trans hs) (by omega) (by
     intro k hm
     rcases List.mem_append.1 hm with hm|hm
     ·exact hk k hm
     ·rw [List.mem_singleton.1 hm];exact r2) (by simp only [List.map_append,List.map_cons,List.map_nil,List.sum_append,List.sum_cons,List.sum_nil];omega) hz (fun _=>by omega)
  ·rw [if_neg he] at hz ⊢
   refine ⟨hk,hc,?_,hs⟩
   cases h:Ej s with
   | true=>rfl
   | false=>exact absurd ⟨hz,h⟩ he
theorem spl {A:List (Sg×Nat)} {L M:List Sg} (h:A.map (·.1)=L++M): ∃ A1 A2,A=A1++A2∧A1.map (·.1)=L∧A2.map (·.1)=M:=by
 obtain ⟨a,b,h1,h2,h3⟩:=List.map_eq_append_iff.1 h
 exact ⟨a,b,h1,h2,h3⟩
theorem spc {A:List (Sg×Nat)} {g:Sg} {M:List Sg} (h:A.map (·.1)=g::M): ∃ a A2,A=(g,a)::A2∧A2.map (·.1)=M:=by
 cases A with
 | nil=>cases h
 | cons p r =>
  obtain ⟨g1,a⟩:=p
  injection h with h1 h2
  simp only at h1
  subst h1
  exact ⟨a,r,rfl,h2⟩
def Fj (r:Nat) (g:Sg):Bool:=(g.kind==2 || g.kind==5)&&(g.text== [40] || [0,1,2,3,4].any fun i=>decide (r≤i)&&(opL i).contains g.text)
def Cr (r:Nat) (R:List (Sg×Nat)):Prop:= ∀ g a R',R=(g,a)::R'→Fj r g=false
theorem contB_le {r r':Nat} {g:Sg} (h:Fj r g=false) (hr:r≤r'):Fj r' g=false:=by
 cases hc:Fj r' g with
 | false=>rfl
 | true =>
  unfold Fj at h hc
  obtain ⟨h1,h2⟩:=(Bool.and_eq_true _ _).mp hc
  rw [Bool.or_eq_true,List.any_eq_true] at h2
  rw [h1,Bool.true_and,Bool.or_eq_false_iff] at h
  rcases h2 with h2|⟨i,hi,h2⟩
  ·rw [h2] at h;cases h.1
  ·have:=(List.any_eq_false.1 h.2) i hi
   rw [Bool.and_eq_true,decide_eq_true_eq] at h2
   rw [Bool.and_eq_true,decide_eq_true_eq] at this
   exact absurd ⟨Nat.le_trans hr h2.1,h2.2⟩ this
theorem Cr.le {r r':Nat} {R:List (Sg×Nat)} (h:Cr r R) (hr:r≤r'):Cr r' R:=fun g a R' e=>contB_le (h g a R' e) hr
theorem isS_cons (x:List UInt8) (g:Sg) (a:Nat) (R:List (Sg×Nat)) (d:Nat):isS x ⟨(g,a)::R,d,0⟩=if g.text=x∧(g.kind=2∨g.kind=5) then (true,⟨R,d,0⟩) else (false,⟨(g,a)::R,d,0⟩):=by
 unfold isS
 simp only [true_and]
theorem isS_hit {x:List UInt8} {g:Sg} (h1:g.text=x) (h2:g.kind=2∨g.kind=5) (a:Nat) (R:List (Sg×Nat)) (d:Nat):isS x ⟨(g,a)::R,d,0⟩=(true,⟨R,d,0⟩):=by rw [isS_cons,if_pos ⟨h1,h2⟩]
theorem Wq {x:List UInt8} {g:Sg} (h: ¬ (g.text=x∧(g.kind=2∨g.kind=5))) (a:Nat) (R:List (Sg×Nat)) (d:Nat):isS x ⟨(g,a)::R,d,0⟩=(false,⟨(g,a)::R,d,0⟩):=by rw [isS_cons,if_neg h]
theorem mustS_hit {x:List UInt8} {g:Sg} (h1:g.text=x) (h2:g.kind=2∨g.kind=5) (a:Nat) (R:List (Sg×Nat)) (d:Nat):Q5 x ⟨(g,a)::R,d,0⟩=⟨R,d,0⟩:=by
 unfold Q5
 rw [isS_hit h1 h2]
 rfl
theorem mk_is (x:List UInt8) (a:Nat) (R:List (Sg×Nat)) (d:Nat):isS x ⟨(mkG x,a)::R,d,0⟩=(true,⟨R,d,0⟩):=isS_hit rfl (.inr rfl) a R d
theorem mk_must (x:List UInt8) (a:Nat) (R:List (Sg×Nat)) (d:Nat):Q5 x ⟨(mkG x,a)::R,d,0⟩=⟨R,d,0⟩:=mustS_hit rfl (.inr rfl) a R d
theorem wd_is (x:List UInt8) (a:Nat) (R:List (Sg×Nat)) (d:Nat):isS x ⟨(wdG x,a)::R,d,0⟩=(true,⟨R,d,0⟩):=isS_hit rfl (.inl rfl) a R d
theorem nmS_hit (x:List UInt8) (a:Nat) (R:List (Sg×Nat)) (d:Nat):nmS ⟨(nmG x,a)::R,d,0⟩=(x,⟨R,d,0⟩):=rfl
theorem opS_mis {R:List (Sg×Nat)} {d:Nat}: ∀ {L:List (List UInt8)},(∀ g a R',R=(g,a)::R'→(g.kind=2∨g.kind=5)→g.text ∉ L)→opS L ⟨R,d,0⟩=(none,⟨R,d,0⟩)
 | [],_=>rfl
 | x::r,h=>by
  unfold opS
  have hf:(isS x ⟨R,d,0⟩).1=false:=by
   cases R with
   | nil=>rfl
   | cons p R' =>
    obtain ⟨g,a⟩:=p
    rw [isS_cons,if_neg]
    rintro ⟨h1,h2⟩
    exact h g a R' rfl h2 (by rw [h1];exact List.mem_cons_self ..)
  rw [hf,if_neg (by decide)]
  exact opS_mis fun g a R' e hk hm=>h g a R' e hk (List.mem_cons_of_mem _ hm)
theorem opS_hit {x:List UInt8} {g:Sg} (h1:g.text=x) (h2:g.kind=2∨g.kind=5) (a:Nat) (R:List (Sg×Nat)) (d:Nat): ∀ {L:List (List UInt8)},x∈L→opS L ⟨(g,a)::R,d,0⟩=(some x,⟨R,d,0⟩)
 | [],h=>by cases h
 | y::r,h=>by
  unfold opS
  by_cases hy:y=x
  ·subst hy
   rw [isS_hit h1 h2]
   rfl
  ·rw [Wq (by rw [h1];rintro ⟨q,_⟩;exact hy q.symm)]
   simp only
   rw [if_neg (by decide)]
   rcases List.mem_cons.1 h with h|h
   ·exact absurd h.symm hy
   ·exact opS_hit h1 h2 a R d h
theorem opS_stop {i r:Nat} (hi:i≤4) (hr:r≤i) {R:List (Sg×Nat)} {d:Nat} (h:Cr r R):opS (opL i) ⟨R,d,0⟩=(none,⟨R,d,0⟩):=by
 refine opS_mis fun g a R' e hk hm=> ?_
 have hc:=h g a R' e
 have hk:(g.kind==2 || g.kind==5)=true:=by simpa using hk
 unfold Fj at hc
 rw [hk,Bool.true_and,Bool.or_eq_false_iff] at hc
 have hm:(opL i).contains g.text=true:=by simpa using hm
 have hmem:i∈ [0,1,2,3,4]:=by simp;omega
 have:=(List.any_eq_false.1 hc.2) i hmem
 rw [hm,Bool.and_true,decide_eq_true_eq] at this
 exact this hr
theorem opG_text (x:List UInt8):(opG x).text=x:=by unfold opG;split <;> rfl
theorem opG_kind (x:List UInt8):(opG x).kind=2∨(opG x).kind=5:=by
 unfold opG
 split
 ·exact .inl rfl
 ·exact .inr rfl
theorem op_cont: ∀ i,i≤4→ ∀ x∈opL i,Fj (i+1) (opG x)=false:=by
 intro i hi
 match i,hi with
 | 0,_=>decide
 | 1,_=>decide
 | 2,_=>decide
 | 3,_=>decide
 | 4,_=>decide
theorem stpR_op {i:Nat} (hi:i≤4) {x:List UInt8} (hx:x∈opL i) (a:Nat) (R:List (Sg×Nat)):Cr (i+1) ((opG x,a)::R):=fun g b R' e=>by
 injection e with e1 e2
 injection e1 with e1 e3
 subst e1
 exact op_cont i hi x hx
theorem stpR_mk {r:Nat} {g:Sg} (h:Fj 0 g=false) (a:Nat) (R:List (Sg×Nat)):Cr r ((g,a)::R):=fun g' b R' e=>by
 injection e with e1 e2
 injection e1 with e1 e3
 subst e1
 exact contB_le h (Nat.zero_le _)
theorem lv_stop {i:Nat} (hi:i≤4) {nx:PSt→Nd×PSt} {out:Nd} {R:List (Sg×Nat)} {d:Nat} (h:Cr i R): ∀ f,Xh i nx f out ⟨R,d,0⟩=(out,⟨R,d,0⟩)
 | 0=>rfl
 | f+1=>by
  unfold Xh
  rw [opS_stop hi (Nat.le_refl _) h]
theorem levS_succ (un:PSt→Nd×PSt) {i:Nat} (hi:i≤4) (s:PSt):Jz un (5 - i) s=Xh i (Jz un (4 - i)) ((Jz un (4 - i) s).2.l.length+1) (Jz un (4 - i) s).1 (Jz un (4 - i) s).2:=by
 obtain ⟨k,hk⟩: ∃ k,4 - i=k:=⟨_,rfl⟩
 rw [show 5 - i=k+1 by omega,hk,Jz,show 4 - k=i by omega]
theorem down {un:PSt→Nd×PSt} {n:Nd} {d:Nat} {A R:List (Sg×Nat)}: ∀ (j r:Nat),j≤5→r≤j→Jz un (5 - j) ⟨A++R,d,0⟩=(n,⟨R,d,0⟩)→Cr r R→Jz un (5 - r) ⟨A++R,d,0⟩=(n,⟨R,d,0⟩)
 | 0,r,hj,hr,h,hs=>by
  obtain rfl:r=0:=by omega
  exact h
 | j+1,r,hj,hr,h,hs=>by
  by_cases e:r=j+1
  ·subst e;exact h
  ·refine down j r (by omega) (by omega) ?_ hs
   rw [levS_succ un (by omega),show 4 - j=5 - (j+1) by omega,h]
   exact lv_stop (by omega) (hs.le (by omega)) _
theorem sgI_br {r:Nat} {n:Nd} (h:rankN n < r):sgI r n=mkG [40]::(sgN n++ [mkG [41]]):=by
 unfold sgI
 rw [decide_eq_true h]
 rfl
def headB (g:Sg):Bool:=g.kind==1 || g.kind==3 || g.kind==4 || (g.kind==2&&(g.text== [110,105,108] || g.text== [110,111,116])) || (g.kind==5&&(g.text== [40] || g.text== [45]))
theorem headE {d:Nat} {n:Nd} (h:FitE d n): ∃ g L,sgN n=g::L∧headB g=true:=by
 induction h with
 | num h=>exact ⟨_,_,by rw [Q2];rfl,rfl⟩
 | text h hl=>exact ⟨_,_,by rw [Q2];rfl,rfl⟩
 | nil=>exact ⟨_,_,by rw [Q2];rfl,rfl⟩
 | var h=>exact ⟨_,_,by rw [Q2];rfl,rfl⟩
 | call h h16 hk ih=>exact ⟨_,_,Um _ _,rfl⟩
 | @bin d da db x a b hx ha fa hb fb iha ihb =>
  rw [Ua]
  by_cases hr:rankN a < raO (lvO x)
  ·exact ⟨_,_,by rw [sgI_br hr];rfl,rfl⟩
  ·obtain ⟨g,L,h1,h2⟩:=iha
   exact ⟨g,_,by rw [Kg (by omega),h1];rfl,h2⟩
 | un hx hd hk fk ih =>
  rw [Ct]
  rcases hx with rfl|rfl
  ·exact ⟨_,_,rfl,rfl⟩
  ·exact ⟨_,_,rfl,rfl⟩
theorem head_not {g:Sg} (h:headB g=true) {x:List UInt8} (hx:x≠ [110,105,108]∧x≠ [110,111,116]∧x≠ [40]∧x≠ [45]): ¬ (g.text=x∧(g.kind=2∨g.kind=5)):=by
 rintro ⟨rfl,hk⟩
 obtain ⟨h1,h2,h3,h4⟩:=hx
 unfold headB at h
 rcases hk with hk|hk
 ·rw [hk] at h
  simp [h1,h2] at h
 ·rw [hk] at h
  simp [h3,h4] at h
theorem rowG_cons (x:List Sg) (r:List (List Sg)) (h:r≠ []):rowG (x::r)=x++mkG [44]::rowG r:=by
 cases r with
 | nil=>exact absurd rfl h
 | cons y r=>rfl
theorem lsR {rd:PSt→Nd×PSt} {d M:Nat}: ∀ (ks:List Nd) (f:Nat) (out:List Nd) (A R:List (Sg×Nat)),ks≠ []→(∀ k∈ks,∀ B R',B.map (·.1)=sgN k→B.length+R'.length≤M→Cr 0 R'→rd ⟨B++R',d,0⟩=(k,⟨R',d,0⟩))→A.map (·.1)=rowG (ks.map sgN)++ [mkG [41]]→A.length+R.length≤M→ks.length≤f→J4 rd f out ⟨A++R,d,0⟩=(out++ks,⟨R,d,0⟩)
 | [],f,out,A,R,h,_,_,_,_=>absurd rfl h
 | [k],f,out,A,R,_,hr,hA,hl,hf=>by
  obtain ⟨f,rfl⟩: ∃ f',f=f'+1:=⟨f - 1,by simp at hf;omega⟩
  obtain ⟨B,C,rfl,h1,h2⟩:=spl hA
  obtain ⟨a,C,rfl,h3⟩:=spc h2
  obtain rfl:C= []:=by simpa using h3
  have e:B++ [(mkG [41],a)]++R=B++(mkG [41],a)::R:=by simp
  have hrd:=hr k (List.mem_cons_self ..) B ((mkG [41],a)::R) h1 (by simp at hl ⊢;omega) (stpR_mk (by decide) _ _)
  rw [J4,if_pos rfl,e,hrd]
  simp only
  rw [mk_is,if_pos rfl]
 | k::k2::r,f,out,A,R,_,hr,hA,hl,hf=>by
  obtain ⟨f,rfl⟩: ∃ f',f=f'+1:=⟨f - 1,by simp at hf;omega⟩
  rw [List.map_cons,rowG_cons _ _ (by simp),List.append_assoc,List.cons_append] at hA
  obtain ⟨B,C,rfl,h1,h2⟩:=spl hA
  obtain ⟨a,C,rfl,h3⟩:=spc h2
  have e:B++(mkG [44],a)::C++R=B++(mkG [44],a)::(C++R):=by simp
  have hrd:=hr k (List.mem_cons_self ..) B ((mkG [44],a)::(C++R)) h1 (by simp at hl ⊢;omega) (stpR_mk (by decide) _ _)
  have ih:=lsR (k2::r) f (out++ [k]) C R (by simp) (fun k' hk'=>hr k' (List.mem_cons_of_mem _ hk')) h3 (by simp at hl ⊢;omega) (by simp at hf ⊢;omega)
  rw [J4,if_pos rfl,e,hrd]
  simp only
  rw [Wq (by decide)]
  simp only
  rw [if_neg (by decide),mk_must,ih]
  simp
theorem rowG_ge: ∀ l:List (List Sg),l.length≤(rowG l).length+1
 | []=>by simp
 | [x]=>by simp [rowG]
 | x::y::r=>by
  have:=rowG_ge (y::r)
  rw [rowG]
  simp only [List.length_cons,List.length_append] at this ⊢
  omega
theorem listR {rd:PSt→Nd×PSt} {d M:Nat} (ks:List Nd) (A R:List (Sg×Nat)) (hh: ∀ k∈ks,∃ g L,sgN k=g::L∧headB g=true) (hr: ∀ k∈ks,∀ B R',B.map (·.1)=sgN k→B.length+R'.length≤M→Cr 0 R'→rd ⟨B++R',d,0⟩=(k,⟨R',d,0⟩)) (hA:A.map (·.1)=rowG (ks.map sgN)++ [mkG [41]]) (hl:A.length+R.length≤M):Xt rd ⟨A++R,d,0⟩=(ks,⟨R,d,0⟩):=by
 cases ks with
 | nil =>
  obtain ⟨a,C,rfl,h3⟩:=spc hA
  obtain rfl:C= []:=by simpa using h3
  unfold Xt
  rw [show [(mkG [41],a)]++R=(mkG [41],a)::R by rfl,mk_is,if_pos rfl]
 | cons k r =>
  have hlen:(k::r).length≤A.length:=by
   have h1:=rowG_ge ((k::r).map sgN)
   have h2:=congrArg List.length hA
   simp only [List.length_map,List.length_append,List.length_cons,List.length_nil] at h1 h2 ⊢
   omega
  obtain ⟨g,L,h1,h2⟩:=hh k (List.mem_cons_self ..)
  have hf:(isS [41] ⟨A++R,d,0⟩).1=false:=by
   have: ∃ L',rowG ((k::r).map sgN)++ [mkG [41]]=g::L':=by
    rw [List.map_cons,h1]
    cases r.map sgN with
    | nil=>exact ⟨_,rfl⟩
    | cons y r=>exact ⟨_,rfl⟩
   obtain ⟨L',hL⟩:=this
   rw [hL] at hA
   obtain ⟨a,C,rfl,h3⟩:=spc hA
   rw [List.cons_append,Wq (head_not h2 (by decide))]
  unfold Xt
  rw [hf,if_neg (by decide)]
  have:=lsR (rd:=rd) (d:=d) (M:=M) (k::r) ((A++R).length+2) [] A R (by simp) hr hA hl (by rw [List.length_append];omega)
  rw [this]
  rfl
theorem deepR {rd:PSt→Nd×PSt} {d:Nat} {l R:List (Sg×Nat)} {n:Nd} (hd:d < 16) (h:rd ⟨l,d+1,0⟩=(n,⟨R,d+1,0⟩)):Jq rd ⟨l,d,0⟩=(n,⟨R,d,0⟩):=by
 have hE:Kw ⟨l,d,0⟩=⟨l,d,0⟩:=by unfold Kw;rw [if_neg (by simp only;omega)]
 unfold Jq
 rw [hE,if_neg (by simp)]
 simp only [h]
 rfl
theorem prim_br {un:PSt→Nd×PSt} {d:Nat} {A R:List (Sg×Nat)} {n:Nd} (hd:d < 16) (hA:A.map (·.1)=mkG [40]::(sgN n++ [mkG [41]])) (h: ∀ B R',B.map (·.1)=sgN n→B.length+R'.length < A.length+R.length→Cr 0 R'→Jz un 5 ⟨B++R',d+1,0⟩=(n,⟨R',d+1,0⟩)):Wc un ⟨A++R,d,0⟩=(n,⟨R,d,0⟩):=by
 obtain ⟨a,C,rfl,h1⟩:=spc hA
 obtain ⟨B,D,rfl,h2,h3⟩:=spl h1
 obtain ⟨b,D,rfl,h4⟩:=spc h3
 obtain rfl:D= []:=by simpa using h4
 have e:(mkG [40],a)::(B++ [(mkG [41],b)])++R=(mkG [40],a)::(B++(mkG [41],b)::R):=by simp
 have h5:=deepR hd (h B ((mkG [41],b)::R) h2 (by simp;omega) (stpR_mk (by decide) _ _))
 rw [e]
 unfold Wc Xv
 simp only
 rw [if_neg (by simp [mkG]),if_neg (by simp [mkG])]
 simp only
 rw [Wq (by decide)]
 simp only
 rw [if_neg (by decide),mk_is,if_pos rfl,h5]
 simp only
 rw [mk_must]
def RB (n:Nd):Prop:= ∀ (d r dn fuel:Nat) (A R:List (Sg×Nat)),r≤5→dpI d r n dn→FitE dn n→A.map (·.1)=sgI r n→A.length+R.length < fuel→Cr r R→Jz (unS fuel) (5 - r) ⟨A++R,d,0⟩=(n,⟨R,d,0⟩)
def CB (n:Nd):Prop:= ∀ (d i dn fuel:Nat) (A R:List (Sg×Nat)),i≤4→i≠2→dpI d i n dn→FitE dn n→A.map (·.1)=sgI i n→A.length+R.length < fuel→Cr (i+1) R→ ∃ f,R.length < f∧Jz (unS fuel) (5 - i) ⟨A++R,d,0⟩=Xh i (Jz (unS fuel) (4 - i)) f n ⟨R,d,0⟩
theorem Nq {m a d:Nat} {g:Sg} {R:List (Sg×Nat)} (h1: ¬ (g.text= [110,111,116]∧(g.kind=2∨g.kind=5))) (h2: ¬ (g.text= [45]∧(g.kind=2∨g.kind=5))):unS (m+1) ⟨(g,a)::R,d,0⟩=Wc (unS m) ⟨(g,a)::R,d,0⟩:=by
 rw [unS,Wq h1]
 simp only
 rw [if_neg (by decide),Wq h2]
 simp only
 rw [if_neg (by decide)]
theorem stp_par {r d:Nat} {R:List (Sg×Nat)} (h:Cr r R):isS [40] ⟨R,d,0⟩=(false,⟨R,d,0⟩):=by
 cases R with
 | nil=>rfl
 | cons p R' =>
  obtain ⟨g,a⟩:=p
  refine Wq ?_ a R' d
  rintro ⟨h1,h2⟩
  have hc:=h g a R' rfl
  unfold Fj at hc
  rw [show (g.kind==2 || g.kind==5)=true by simpa using h2,h1] at hc
  simp at hc
theorem prim_name {un:PSt→Nd×PSt} {a d:Nat} {x:List UInt8} {R:List (Sg×Nat)}:Wc un ⟨(nmG x,a)::R,d,0⟩=if (isS [40] ⟨R,d,0⟩).1 then (.mk 12 x 0 (Xt (Jq (Jz un 5)) (isS [40] ⟨R,d,0⟩).2).1,(Xt (Jq (Jz un 5)) (isS [40] ⟨R,d,0⟩).2).2) else (.mk 11 x 0 [],⟨R,d,0⟩):=by
 unfold Wc Xv
 simp only
 rw [if_neg (by simp [nmG]),if_neg (by simp [nmG])]
 simp only
 rw [Wq (by simp [nmG])]
 simp only
 rw [if_neg (by decide),Wq (by simp [nmG])]
 simp only
 rw [if_neg (by decide),nmS_hit]
theorem lvO_le (x:List UInt8):lvO x≤4:=by
 unfold lvO
 repeat' split
 all_goals omega
theorem rank_bin (x:List UInt8) (a b:Nd):rankN (.mk 13 x 0 [a,b])=lvO x:=rfl
theorem Jh {op:Nat} {tx:List UInt8} {nm:Nat} {ks:List Nd} {k:Nd} (h:k∈ks):cntN k < cntN (.mk op tx nm ks):=by
 rw [cntN]
 have: ∀ l:List Nd,k∈l→cntN k≤cntL l:=by
  intro l
  induction l with
  | nil=>intro h;cases h
  | cons y r ih =>
   intro h
   rw [cntL]
   rcases List.mem_cons.1 h with rfl|h
   ·omega
   ·have:=ih h;omega
 have:=this ks h
 omega
theorem baseB {n:Nd} (ih: ∀ k,cntN k < cntN n→RB k∧CB k) {d fuel:Nat} {A R:List (Sg×Nat)} (hf:FitE d n) (hA:A.map (·.1)=sgN n) (hl:A.length+R.length < fuel) (hs:Cr (min (rankN n) 5) R):Jz (unS fuel) (5 - min (rankN n) 5) ⟨A++R,d,0⟩=(n,⟨R,d,0⟩):=by
 obtain ⟨m,rfl⟩: ∃ m,fuel=m+1:=⟨fuel - 1,by omega⟩
 cases hf with
 | num h =>
  rw [Q2] at hA
  obtain ⟨a,C,rfl,h1⟩:=spc hA
  obtain rfl:C= []:=by simpa using h1
  show unS (m+1) ⟨(nuG _,a)::R,d,0⟩=_
  rw [Nq (by simp [nuG]) (by simp [nuG])]
  rfl
 | text h hl =>
  rw [Q2] at hA
  obtain ⟨a,C,rfl,h1⟩:=spc hA
  obtain rfl:C= []:=by simpa using h1
  show unS (m+1) ⟨(txG _,a)::R,d,0⟩=_
  rw [Nq (by simp [txG]) (by simp [txG])]
  rfl
 | nil =>
  rw [Q2] at hA
  obtain ⟨a,C,rfl,h1⟩:=spc hA
  obtain rfl:C= []:=by simpa using h1
  show unS (m+1) ⟨(wdG [110,105,108],a)::R,d,0⟩=_
  rw [Nq (by decide) (by decide)]
  rfl
 | var h =>
  rw [Q2] at hA
  obtain ⟨a,C,rfl,h1⟩:=spc hA
  obtain rfl:C= []:=by simpa using h1
  show unS (m+1) ⟨(nmG _,a)::R,d,0⟩=_
  rw [Nq (by simp [nmG]) (by simp [nmG]),prim_name,stp_par hs]
  rfl
 | @call _ x ks h h16 hk =>
  rw [Um] at hA
  obtain ⟨a,C,rfl,h1⟩:=spc hA
  obtain ⟨b,C,rfl,h2⟩:=spc h1
  show unS (m+1) ⟨(nmG x,a)::(mkG [40],b)::(C++R),d,0⟩=_
  rw [Nq (by simp [nmG]) (by simp [nmG]),prim_name,mk_is,if_pos rfl]
  have hL:=listR (rd:=Jq (Jz (unS m) 5)) (d:=d) (M:=C.length+R.length) ks C R (fun k hm=>headE (hk k hm)) (fun k hm B R' hB hlen hst=>deepR (h16 k hm) ((ih k (Jh hm)).1 (d+1) 0 (d+1) m B R' (by omega) (.inl ⟨Nat.zero_le _,rfl⟩) (hk k hm) (by rw [Kg (Nat.zero_le _)];exact hB) (by simp only [List.length_cons] at hl;omega) hst)) h2 (Nat.le_refl _)
  rw [hL]
 | @un _ dk x k hx hd hk fk =>
  rw [Ct] at hA
  obtain ⟨a,C,rfl,h1⟩:=spc hA
  have hr:=deepR hd ((ih k (Jh (List.mem_cons_self ..))).1 (d+1) 5 dk m C R (by omega) hk fk h1 (by simp only [List.length_cons] at hl;omega) hs)
  show unS (m+1) ⟨(opG x,a)::(C++R),d,0⟩=_
  have hr:Jq (unS m) ⟨C++R,d,0⟩=(k,⟨R,d,0⟩):=hr
  rcases hx with rfl|rfl
  ·rw [unS,show opG [110,111,116]=wdG [110,111,116] from rfl,wd_is,if_pos rfl,hr]
  ·rw [unS,show opG [45]=mkG [45] from rfl,Wq (by decide)]
   simp only
   rw [if_neg (by decide),mk_is,if_pos rfl,hr]
 | @bin _ da db x a b hx ha fa hb fb =>
  have hi:=lvO_le x
  rw [rank_bin,Nat.min_eq_left (by omega)] at hs ⊢
  rw [Ua] at hA
  obtain ⟨B,C,rfl,h1,h2⟩:=spl hA
  obtain ⟨p,C,rfl,h3⟩:=spc h2
  have ca:=Jh (op:=13) (tx:=x) (nm:=0) (ks:= [a,b]) (k:=a) (by simp)
  have cb:=Jh (op:=13) (tx:=x) (nm:=0) (ks:= [a,b]) (k:=b) (by simp)
  obtain ⟨ra,qa⟩:=ih a ca
  obtain ⟨rb,qb⟩:=ih b cb
  have e:B++(opG x,p)::C++R=B++(opG x,p)::(C++R):=by simp
  have hlen:B.length+((opG x,p)::(C++R)).length < m+1:=by
   simp only [List.length_append,List.length_cons] at hl ⊢
   omega
  have hlc:C.length+R.length < m+1:=by
   simp only [List.length_append,List.length_cons] at hlen ⊢
   omega
  have hB:=rb d (lvO x+1) db (m+1) C R (by omega) hb fb h3 hlc (hs.le (by omega))
  rw [show 5 - (lvO x+1)=4 - lvO x by omega] at hB
  by_cases h2:lvO x=2
  ·rw [h2] at ha h1 hB hx hs ⊢
   have hA3:=ra d 3 da (m+1) B ((opG x,p)::(C++R)) (by omega) ha fa h1 hlen (stpR_op (i:=2) (by omega) hx p _)
   rw [e,levS_succ _ (by omega:2≤4),show 4 - 2=5 - 3 by omega,hA3]
   simp only [List.length_cons]
   rw [Xh,opS_hit (opG_text x) (opG_kind x) p _ d hx]
   simp only
   rw [if_pos trivial,show 5 - 3=4 - 2 by omega,hB]
  ·have hra:raO (lvO x)=lvO x:=by unfold raO;rw [if_neg h2]
   rw [hra] at ha h1
   obtain ⟨f,hf,hq⟩:=qa d (lvO x) da (m+1) B ((opG x,p)::(C++R)) hi h2 ha fa h1 hlen (stpR_op hi hx p _)
   obtain ⟨f,rfl⟩: ∃ f',f=f'+1:=⟨f - 1,by omega⟩
   rw [e,hq,Xh,opS_hit (opG_text x) (opG_kind x) p _ d hx]
   simp only
   rw [if_neg h2,hB]
   exact lv_stop hi hs _
theorem bare_all {n:Nd} (ih: ∀ k,cntN k < cntN n→RB k∧CB k) {d r fuel:Nat} {A R:List (Sg×Nat)} (hr:r≤5) (hb:r≤rankN n) (hf:FitE d n) (hA:A.map (·.1)=sgN n) (hl:A.length+R.length < fuel) (hs:Cr r R):Jz (unS fuel) (5 - r) ⟨A++R,d,0⟩=(n,⟨R,d,0⟩) :=
 down (min (rankN n) 5) r (by omega) (by omega) (baseB ih hf hA hl (hs.le (by omega))) hs
theorem brk_all {n:Nd} (ih: ∀ k,cntN k < cntN n→RB k∧CB k) {d r fuel:Nat} {A R:List (Sg×Nat)} (hr:r≤5) (hb:rankN n < r) (hd:d < 16) (hf:FitE (d+1) n) (hA:A.map (·.1)=mkG [40]::(sgN n++ [mkG [41]])) (hl:A.length+R.length < fuel) (hs:Cr r R):Jz (unS fuel) (5 - r) ⟨A++R,d,0⟩=(n,⟨R,d,0⟩):=by
 refine down 5 r (by omega) hr ?_ hs
 obtain ⟨m,rfl⟩: ∃ m,fuel=m+1:=⟨fuel - 1,by omega⟩
 show unS (m+1) ⟨A++R,d,0⟩=_
 have hp:=prim_br (un:=unS m) (R:=R) hd hA (fun B R' hB hlen hst=>bare_all ih (r:=0) (by omega) (Nat.zero_le _) hf hB (by omega) hst)
 obtain ⟨a,C,rfl,h1⟩:=spc hA
 rw [List.cons_append] at hp ⊢
 rw [Nq (by decide) (by decide)]
 exact hp
theorem reads: ∀ (N:Nat) (n:Nd),cntN n≤N→RB n∧CB n
 | 0,n,h=>by have:=Bf n;omega
 | N+1,n,h=>by
  have ih: ∀ k,cntN k < cntN n→RB k∧CB k:=fun k hk=>reads N k (by omega)
  have hRB:RB n:=fun d r dn fuel A R hr hd hf hA hl hs=>by
   rcases hd with ⟨h1,rfl⟩|⟨h1,h2,rfl⟩
   ·rw [Kg h1] at hA
    exact bare_all ih hr h1 hf hA hl hs
   ·rw [sgI_br h1] at hA
    exact brk_all ih hr h1 h2 hf hA hl hs
  refine ⟨hRB,fun d i dn fuel A R hi h2 hd hf hA hl hs=> ?_⟩
  by_cases hri:rankN n=i
  ·obtain ⟨m,rfl⟩: ∃ m,fuel=m+1:=⟨fuel - 1,by omega⟩
   rcases hd with ⟨_,rfl⟩|⟨q,_⟩
   ·rw [Kg (by omega)] at hA
    cases hf with
    | num h=>exact absurd hri (by show ¬ 6=i;omega)
    | text h hl=>exact absurd hri (by show ¬ 6=i;omega)
    | nil=>exact absurd hri (by show ¬ 6=i;omega)
    | var h=>exact absurd hri (by show ¬ 6=i;omega)
    | call h h16 hk=>exact absurd hri (by show ¬ 6=i;omega)
    | un hx hd hk fk=>exact absurd hri (by show ¬ 5=i;omega)
    | @bin _ da db x a b hx ha fa hb fb =>
     have hri:lvO x=i:=hri
     subst hri
     have hra:raO (lvO x)=lvO x:=by unfold raO;rw [if_neg h2]
     rw [hra] at ha
     rw [Ua,hra] at hA
     obtain ⟨B,C,rfl,h1,h3⟩:=spl hA
     obtain ⟨p,C,rfl,h4⟩:=spc h3
     have ca:=Jh (op:=13) (tx:=x) (nm:=0) (ks:= [a,b]) (k:=a) (by simp)
     have cb:=Jh (op:=13) (tx:=x) (nm:=0) (ks:= [a,b]) (k:=b) (by simp)
     have e:B++(opG x,p)::C++R=B++(opG x,p)::(C++R):=by simp
     have hlen:B.length+((opG x,p)::(C++R)).length < m+1:=by
      simp only [List.length_append,List.length_cons] at hl ⊢
      omega
     have hlc:C.length+R.length < m+1:=by
      simp only [List.length_append,List.length_cons] at hlen ⊢
      omega
     have hB:=(ih b cb).1 dn (lvO x+1) db (m+1) C R (by omega) hb fb h4 hlc hs
     rw [show 5 - (lvO x+1)=4 - lvO x by omega] at hB
     obtain ⟨f,hf,hq⟩:=(ih a ca).2 dn (lvO x) da (m+1) B ((opG x,p)::(C++R)) hi h2 ha fa h1 hlen (stpR_op hi hx p _)
     obtain ⟨f,rfl⟩: ∃ f',f=f'+1:=⟨f - 1,by omega⟩
     refine ⟨f,by simp only [List.length_append,List.length_cons] at hf;omega,?_⟩
     rw [e,hq,Xh,opS_hit (opG_text x) (opG_kind x) p _ dn hx]
     simp only
     rw [if_neg h2,hB]
   ·omega
  ·have hd':dpI d (i+1) n dn:=by
    rcases hd with ⟨q,e⟩|⟨q,e⟩
    ·exact .inl ⟨by omega,e⟩
    ·exact .inr ⟨by omega,e⟩
   have hA':A.map (·.1)=sgI (i+1) n:=by
    rw [hA]
    unfold sgI
    by_cases q:rankN n < i
    ·rw [decide_eq_true q,decide_eq_true (by omega)]
    ·rw [decide_eq_false q,decide_eq_false (by omega)]
   have hh:=hRB d (i+1) dn fuel A R (by omega) hd' hf hA' hl hs
   rw [show 5 - (i+1)=4 - i by omega] at hh
   refine ⟨R.length+1,by omega,?_⟩
   rw [levS_succ _ hi,hh]
theorem Bd {k:Nat} (h:k < 10):(UInt8.ofNat (48+k)).toNat=48+k:=by
 rw [UInt8.toNat_ofNat'];omega
theorem dec_firstU: ∀ u:Nat,∃ d r,Lib.decDigits u=d::r∧48≤d.toNat∧d.toNat≤57∧(0 < u→d≠48)∧(u≤2147483648→r.length≤u):=by
 intro u
 induction u using Nat.strongRecOn with
 | ind u ih =>
  by_cases h:u < 10
  ·rw [Lib.decDigits,dif_pos h]
   refine ⟨_,[],rfl,by rw [Bd h];omega,by rw [Bd h];omega,fun h0 e=> ?_,by simp⟩
   have:=congrArg UInt8.toNat e
   rw [Bd h] at this
   simp at this
   omega
  ·rw [Lib.decDigits,dif_neg h]
   obtain ⟨d,r,e,h1,h2,h3,h4⟩:=ih (u / 10) (by omega)
   rw [e]
   exact ⟨d,r++ [UInt8.ofNat (48+u % 10)],rfl,h1,h2,fun _=>h3 (by omega),fun q=>by have:=h4 (by omega);simp;omega⟩
theorem dec_goU (most:Int): ∀ (u:Nat) (r:List UInt8),(u:Int)≤most→Y6 most (Lib.decDigits u++r) 0=Y6 most r u:=by
 intro u
 induction u using Nat.strongRecOn with
 | ind u ih =>
  intro r hu
  by_cases h:u < 10
  ·rw [Lib.decDigits,dif_pos h]
   show Y6 most (UInt8.ofNat (48+u)::r) 0=_
   rw [Y6,Bd h,if_pos (by omega)]
   congr 1
   omega
  ·rw [Lib.decDigits,dif_neg h,List.append_assoc,ih (u / 10) (by omega) _ (by omega)]
   show Y6 most (UInt8.ofNat (48+u % 10)::r) _=_
   rw [Y6,Bd (by omega),if_pos (by omega)]
   congr 1
   omega
theorem num_decU (most:Int) (u:Nat) (hu:(u:Int)≤most):num (Lib.decDigits u) most=some (u:Int):=by
 unfold num
 obtain ⟨d,r,e,h1,h2,h3,h4⟩:=dec_firstU u
 rw [if_neg]
 ·have:=dec_goU most u [] hu
  rw [List.append_nil] at this
  rw [this];rfl
 ·rintro (q|⟨q1,q2⟩)
  ·rw [e] at q;cases q
  ·by_cases hu:u < 10
   ·rw [Lib.decDigits,dif_pos hu] at q1;simp at q1
   ·rw [e] at q2
    simp at q2
    exact h3 (by omega) q2
theorem dec_digs: ∀ u:Nat,∀ x∈Lib.decDigits u,Jx x=true:=by
 intro u
 induction u using Nat.strongRecOn with
 | ind u ih =>
  intro x hx
  have one: ∀ k,k < 10→Jx (UInt8.ofNat (48+k))=true:=fun k hk=>by
   unfold Jx
   rw [Bd hk]
   simp
   omega
  by_cases h:u < 10
  ·rw [Lib.decDigits,dif_pos h] at hx
   rw [List.mem_singleton.1 hx]
   exact one u h
  ·rw [Lib.decDigits,dif_neg h] at hx
   rcases List.mem_append.1 hx with hx|hx
   ·exact ih (u / 10) (by omega) x hx
   ·rw [List.mem_singleton.1 hx]
    exact one _ (by omega)
theorem dec_short: ∀ (k u:Nat),u < 10 ^ (k+1)→(Lib.decDigits u).length≤k+1
 | 0,u,h=>by rw [Lib.decDigits,dif_pos (by omega)];simp
 | k+1,u,h=>by
  by_cases h1:u < 10
  ·rw [Lib.decDigits,dif_pos h1];simp
  ·rw [Lib.decDigits,dif_neg h1,List.length_append,List.length_singleton]
   have:=dec_short k (u / 10) (by rw [Nat.pow_succ] at h;omega)
   omega
theorem lex_num {v:Nat} (h:v≤2147483648):Yu (nuG v):=by
 obtain ⟨d,r,e,h1,h2,h3,h4⟩:=dec_firstU v
 have hown:Wh (nuG v)=Lib.decDigits v:=rfl
 refine ⟨fun t=> ?_,d,r,by rw [hown,e],?_⟩
 ·rw [hown]
  have hd:Jx d=true:=by unfold Jx;simp;omega
  have hl:Wk d=false:=by
   unfold Wk
   simp
   omega
  have hrun:Jd Jx (Lib.decDigits v++32::t)=(Lib.decDigits v).length:=by
   rw [runB_app Jx _ _ (dec_digs v),runB_blank (by decide),Nat.add_zero]
  have hlex:Xr (Lib.decDigits v++32::t)=Ur (Lib.decDigits v++32::t):=by
   rw [e,List.cons_append,Ue,hl,if_neg (by decide),hd,if_pos rfl]
  rw [hlex]
  unfold Ur
  rw [hrun,List.take_left,num_decU _ _ (by omega)]
  rw [if_neg]
  ·simp only [Int.toNat_natCast]
   rfl
  ·rintro ⟨q1,q2⟩
   by_cases hu:v < 10
   ·rw [Lib.decDigits,dif_pos hu] at q1;simp at q1
   ·rw [e] at q2
    simp at q2
    exact h3 (by omega) q2
 ·have hs:=dec_short 9 v (by omega)
  rw [e,List.length_cons] at hs
  refine ⟨?_,?_,by omega⟩
  ·unfold Ku
   simp
   omega
  ·omega
theorem Yr {m:List UInt8} (hm:m∈marksL):Yu (mkG m):=by
 obtain ⟨c,x,h1,h2,h3⟩:=mark_first m hm
 have hl: ∀ m∈marksL,m.length≤5000:=by decide
 have:=hl m hm
 rw [h1,List.length_cons] at this
 exact ⟨fun r=>mark_lex m hm 32 (by decide) r,c,x,h1,h2,h3,by omega⟩
theorem Wu {m:List UInt8} (hm:m∈wordsL):Yu (wdG m):=by
 simp only [wordsL,List.mem_cons,List.not_mem_nil,or_false] at hm
 rcases hm with rfl|rfl|rfl|rfl|rfl|rfl|rfl|rfl|rfl <;> exact ⟨fun r=>rfl,_,_,rfl,by decide,by decide,by decide⟩
theorem op_lex: ∀ i,i≤4→ ∀ x∈opL i,(wordsL.contains x=true∨marksL.contains x=true):=by
 intro i hi
 match i,hi with
 | 0,_=>decide
 | 1,_=>decide
 | 2,_=>decide
 | 3,_=>decide
 | 4,_=>decide
theorem lex_op {x:List UInt8} (h:wordsL.contains x=true∨marksL.contains x=true):Yu (opG x):=by
 unfold opG
 cases hw:wordsL.contains x with
 | true=>exact Wu (by simpa using hw)
 | false =>
  rw [hw] at h
  exact Yr (by simpa using h)
theorem lex_brG {b:Bool} {L:List Sg} (h: ∀ g∈L,Yu g): ∀ g∈brG b L,Yu g:=by
 cases b with
 | false=>exact h
 | true =>
  intro g hg
  simp only [brG,if_true,List.mem_cons,List.mem_append,List.not_mem_nil,or_false] at hg
  rcases hg with rfl|hg|rfl
  ·exact Yr (by decide)
  ·exact h g hg
  ·exact Yr (by decide)
theorem lex_row: ∀ (L:List (List Sg)),(∀ l∈L,∀ g∈l,Yu g)→ ∀ g∈rowG L,Yu g
 | [],_,g,hg=>by cases hg
 | [x],h,g,hg=>h x (List.mem_cons_self ..) g hg
 | x::y::r,h,g,hg=>by
  rw [rowG] at hg
  rcases List.mem_append.1 hg with hg|hg
  ·exact h x (List.mem_cons_self ..) g hg
  ·rcases List.mem_cons.1 hg with rfl|hg
   ·exact Yr (by decide)
   ·exact lex_row (y::r) (fun l hl=>h l (List.mem_cons_of_mem _ hl)) g hg
theorem lexE {d:Nat} {n:Nd} (h:FitE d n): ∀ g∈sgN n,Yu g:=by
 induction h with
 | num h=>rw [Q2];intro g hg;rw [List.mem_singleton.1 hg];exact lex_num h
 | text h hl=>rw [Q2];intro g hg;rw [List.mem_singleton.1 hg];exact h
 | nil=>rw [Q2];intro g hg;rw [List.mem_singleton.1 hg];exact Wu (by decide)
 | var h=>rw [Q2];intro g hg;rw [List.mem_singleton.1 hg];exact h
 | @call d x ks h h16 hk ih =>
  rw [Um]
  intro g hg
  rcases List.mem_cons.1 hg with rfl|hg
  ·exact h
  ·rcases List.mem_cons.1 hg with rfl|hg
   ·exact Yr (by decide)
   ·rcases List.mem_append.1 hg with hg|hg
    ·refine lex_row _ (fun l hl=> ?_) g hg
     obtain ⟨k,hk2,rfl⟩:=List.mem_map.1 hl
     exact ih k hk2
    ·rw [List.mem_singleton.1 hg];exact Yr (by decide)
 | @bin d da db x a b hx ha fa hb fb iha ihb =>
  rw [Ua]
  intro g hg
  rcases List.mem_append.1 hg with hg|hg
  ·exact lex_brG iha g hg
  ·rcases List.mem_cons.1 hg with rfl|hg
   ·exact lex_op (op_lex _ (lvO_le x) x hx)
   ·exact lex_brG ihb g hg
 | @un d dk x k hx hd hk fk ih =>
  rw [Ct]
  intro g hg
  rcases List.mem_cons.1 hg with rfl|hg
  ·refine lex_op ?_
   rcases hx with rfl|rfl <;> decide
  ·exact lex_brG ih g hg
theorem lexFS {i d:Nat} {n:Nd} (h:FitS i d n): ∀ g∈sgN n,Yu g:=by
 induction h with
 | set h hn =>
  rw [Q2]
  intro g hg
  simp only [X4,List.map_cons,List.map_nil,List.getD_cons_zero,List.mem_cons,List.mem_append,List.not_mem_nil,or_false] at hg
  rcases hg with rfl|rfl|hg|rfl
  ·exact h
  ·exact Yr (by decide)
  ·exact lexE hn g hg
  ·exact Yr (by decide)
 | do_ hn =>
  rw [Q2]
  intro g hg
  simp only [X4,List.map_cons,List.map_nil,List.getD_cons_zero,List.mem_cons,List.mem_append,List.not_mem_nil,or_false] at hg
  rcases hg with hg|rfl
  ·exact lexE hn g hg
  ·exact Yr (by decide)
 | if2 hn hb ihb =>
  rw [Q2]
  intro g hg
  simp only [X4,List.map_cons,List.map_nil,List.getD_cons_zero,List.getD_cons_succ,List.length_cons,List.length_nil,List.mem_cons,List.mem_append] at hg
  rw [if_neg (by decide)] at hg
  simp only [List.not_mem_nil,or_false] at hg
  rcases hg with rfl|hg|hg
  ·exact Wu (by decide)
  ·exact lexE hn g hg
  ·exact ihb g hg
 | if3 hn hb hc ihb ihc =>
  rw [Q2]
  intro g hg
  simp only [X4,List.map_cons,List.map_nil,List.getD_cons_zero,List.getD_cons_succ,List.length_cons,List.length_nil,List.mem_cons,List.mem_append,if_true] at hg
  rcases hg with rfl|hg|hg|rfl|hg
  ·exact Wu (by decide)
  ·exact lexE hn g hg
  ·exact ihb g hg
  ·exact Wu (by decide)
  ·exact ihc g hg
 | while_ hn hb ihb =>
  rw [Q2]
  intro g hg
  simp only [X4,List.map_cons,List.map_nil,List.getD_cons_zero,List.getD_cons_succ,List.mem_cons,List.mem_append] at hg
  rcases hg with rfl|hg|hg
  ·exact Wu (by decide)
  ·exact lexE hn g hg
  ·exact ihb g hg
 | stop =>
  rw [Q2]
  intro g hg
  simp only [X4,List.mem_cons,List.not_mem_nil,or_false] at hg
  rcases hg with rfl|rfl
  ·exact Wu (by decide)
  ·exact Yr (by decide)
 | block hd hk ih =>
  rw [Q2]
  intro g hg
  simp only [X4,List.mem_cons,List.mem_append,List.not_mem_nil,or_false,List.mem_flatten,List.mem_map] at hg
  rcases hg with rfl|⟨l,⟨k,hk2,rfl⟩,hg⟩|rfl
  ·exact Yr (by decide)
  ·exact ih k hk2 g hg
  ·exact Yr (by decide)
theorem lexO {n:Nd} (h:FitO n): ∀ g∈sgN n,Yu g:=by
 obtain ⟨x,ys,b,rfl,hx,hy,hb⟩:=h
 rw [Q2]
 intro g hg
 simp only [X4,List.map_append,List.map_cons,List.map_nil,List.dropLast_concat,List.getLastD_concat,List.mem_cons,List.mem_append] at hg
 rcases hg with rfl|rfl|rfl|hg|rfl|hg
 ·exact Wu (by decide)
 ·exact hx
 ·exact Yr (by decide)
 ·refine lex_row _ (fun l hl=> ?_) g hg
  obtain ⟨k,hk,rfl⟩:=List.mem_map.1 hl
  obtain ⟨y,hy2,rfl⟩:=List.mem_map.1 hk
  rw [Q2]
  intro g hg
  rw [List.mem_singleton.1 hg]
  exact hy y hy2
 ·exact Yr (by decide)
 ·exact lexFS hb g hg
def joinG:List Sg→List UInt8
 | []=> []
 | [g]=>Wh g
 | g::h::r=>Wh g++32::joinG (h::r)
theorem numGo_le {most:Int}: ∀ (l:List UInt8) (n x:Int),n≤most→Y6 most l n=some x→x≤most
 | [],n,x,hn,h=>by
  rw [Y6] at h
  injection h with h
  omega
 | b::r,n,x,hn,h=>by
  rw [Y6] at h
  split at h
  ·rename_i hc
   exact numGo_le r _ x hc.2 h
  ·cases h
theorem lexS_norm (u:List UInt8) (he:(Xr u).e=0):((Xr u).sg.kind=1→(Xr u).sg.num=0)∧((Xr u).sg.kind=4→(Xr u).sg.num=0)∧((Xr u).sg.kind=3→(Xr u).sg.num≤2147483648):=by
 cases u with
 | nil=>cases he
 | cons c r =>
  rw [Ue] at he ⊢
  by_cases h1:Wk c=true
  ·rw [if_pos h1] at he ⊢
   unfold Kk at he ⊢
   split
   ·exact ⟨fun _=>rfl,fun _=>rfl,fun h=>(by cases h)⟩
   ·split
    ·exact ⟨fun _=>rfl,fun _=>rfl,fun h=>(by cases h)⟩
    ·exact ⟨fun _=>rfl,fun _=>rfl,fun h=>(by cases h)⟩
  ·rw [if_neg h1] at he ⊢
   by_cases h2:Jx c=true
   ·rw [if_pos h2] at he ⊢
    unfold Ur at he ⊢
    split
    ·exact ⟨fun h=>(by cases h),fun h=>(by cases h),fun h=>(by cases h)⟩
    ·cases hn:num ((c::r).take (Jd Jx (c::r))) 2147483648 with
     | none=>exact ⟨fun h=>(by cases h),fun h=>(by cases h),fun h=>(by cases h)⟩
     | some x =>
      refine ⟨fun h=>(by cases h),fun h=>(by cases h),fun _=> ?_⟩
      unfold num at hn
      split at hn
      ·cases hn
      ·have:=numGo_le _ 0 x (by decide) hn
       simp only
       omega
   ·rw [if_neg h2] at he ⊢
    by_cases h3:c.toNat=34
    ·rw [if_pos h3] at he ⊢
     unfold Cq at he ⊢
     split
     ·exact ⟨fun h=>(by cases h),fun h=>(by cases h),fun h=>(by cases h)⟩
     ·exact ⟨fun h=>(by cases h),fun _=>rfl,fun h=>(by cases h)⟩
    ·rw [if_neg h3] at he ⊢
     obtain ⟨m,_,h4,_⟩:=markS_ok _ _ he
     rw [h4]
     exact ⟨fun h=>(by cases h),fun h=>(by cases h),fun h=>(by cases h)⟩
theorem good_sg {t:List UInt8} (ht:t.length≤1200) {p:Sg×Nat} (h:SgOk t p):(p.1.kind=1→Yu (nmG p.1.text))∧(p.1.kind=4→Yu (txG p.1.text)∧p.1.text.length≤1200)∧(p.1.kind=3→p.1.num≤2147483648):=by
 have hol:=(own_len h).1
 obtain ⟨h1,h2,h3⟩:=h
 obtain ⟨n1,n2,n3⟩:=lexS_norm _ h2
 obtain ⟨o1,o2,o3,_⟩:=own_lex t p.2 h1 h2 (d:=32) (by decide)
 rw [h3] at o1 o2 o3 n1 n2 n3
 obtain ⟨⟨k,x,v⟩,a⟩:=p
 simp only at o1 o2 o3 n1 n2 n3 ⊢
 obtain ⟨c0,x0,c1,c2,c3⟩:=o2
 rw [c1,List.length_cons] at hol
 have o2: ∃ c y,Ee t (⟨k,x,v⟩,a)=c::y∧Ku c=false∧c.toNat≠35∧y.length≤5000:=⟨c0,x0,c1,c2,c3,by omega⟩
 clear c1 hol
 refine ⟨fun hk=> ?_,fun hk=> ?_,n3⟩
 ·subst hk
  have hv:=n1 rfl
  subst hv
  exact ⟨o1,o2⟩
 ·subst hk
  have hv:=n2 rfl
  subst hv
  exact ⟨⟨o1,o2⟩,by have:=o3 rfl;omega⟩
theorem good_signs {t:List UInt8} (ht:t.length≤1200) {l:List (Sg×Nat)} (h:Yi t= .inr l):Wz l:=by
 obtain ⟨b1,b2,b3,_⟩:=blanks_law 0 t l h
 obtain ⟨p,z,hp,hz⟩:=(Nt h).1
 intro q hq
 rw [hp] at hq b3
 rw [List.dropLast_concat] at b3
 rcases List.mem_append.1 hq with hq|hq
 ·exact good_sg ht (b3 q hq)
 ·rw [List.mem_singleton.1 hq,hz]
  exact ⟨fun h=>(by cases h),fun h=>(by cases h),fun h=>(by cases h)⟩
theorem back_fit {t:List UInt8} (ht:t.length≤1200) (h:(Ym t).2=0): ∃ ks,(Ym t).1= .mk 0 [] 0 ks∧(∀ k∈ks,FitO k)∧(sgN (Ym t).1).length≤1024∧dupB [] ks=false:=by
 unfold Ym at h ⊢
 split at h
 ·rename_i e hl;exact absurd h (Ea hl)
 ·rename_i l hl
  have hw:=Nt hl
  by_cases he:(Xy ⟨l,0,0⟩).2.e=0
  ·rw [if_neg (by rw [he];simp)] at h ⊢
   cases hd:dupB [] (Xy ⟨l,0,0⟩).1.kids with
   | true=>rw [hd,if_pos rfl] at h;cases h
   | false =>
    rw [if_neg (by decide)]
    refine ⟨(scLoop (l.length+2) [] ⟨l,0,0⟩).1,rfl,?_⟩
    have hz:(scLoop (l.length+2) [] ⟨l,0,0⟩).2.e=0:=he
    obtain ⟨c1,c2,c3,c4⟩:=scE (l.length+2) [] ⟨l,0,0⟩ ⟨l,0,0⟩ (good_signs ht hl) (List.suffix_refl _) rfl (fun k hk=>by cases hk) (by simp) hz (fun _=>by simp only;omega)
    have hwf:=(scLoop_ok (l.length+2) [] ⟨l,0,0⟩).wf hw.1
    obtain ⟨p,z,hp,_⟩:=hwf
    have hlen:=congrArg List.length hp
    rw [List.length_append,List.length_cons,List.length_nil] at hlen
    refine ⟨c1,?_,hd⟩
    show (sgN (.mk 0 [] 0 (scLoop (l.length+2) [] ⟨l,0,0⟩).1)).length≤1024
    rw [Q2]
    simp only [X4,Fb]
    have:=hw.2
    simp only at c2
    omega
  ·rw [if_pos he] at h
   exact absurd h he
end Go.Proofs.YtnmjdjldbloefaaGreatDoor
