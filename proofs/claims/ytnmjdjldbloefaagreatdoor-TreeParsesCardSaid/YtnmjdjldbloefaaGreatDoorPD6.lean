import Derived.Test.YtnmjdjldbloefaaGreatDoorPD9
import Derived.Test.YtnmjdjldbloefaaGreatDoorPE5
import Derived.Test.YtnmjdjldbloefaaGreatDoorPD3
import Derived.Test.YtnmjdjldbloefaaGreatDoorPH3
import Derived.Test.YtnmjdjldbloefaaGreatDoorPH0
import Derived.Test.YtnmjdjldbloefaaGreatDoorPD2
/- The document's Parse, walked: it hands back what its parser says in plain words. -/
namespace Go.Proofs.YtnmjdjldbloefaaGreatDoor
open Go Go.RowKit
set_option linter.unusedSimpArgs false
set_option linter.unusedVariables false
set_option maxRecDepth 100000
set_option maxHeartbeats 8000000
theorem sty_S:Dr Tryz.prog 69 1 16:=⟨⟨_,_,_,rfl,rfl,rfl,rfl,rfl,rfl⟩⟩
def NW (v u:VV):Prop:= ∀ (w:World) (Z:Nat→Prop) (ρ:Nat→Option (Nat×Nat)) (y:Value),Qm w Z ρ v y→Qm w Z ρ u y
inductive NWL:List VV→List VV→Prop
 | nil:NWL [] []
 | cons {v u:VV} {r s:List VV} (h:NW v u) (t:NWL r s):NWL (v::r) (u::s)
theorem NWL.len {vs us:List VV} (h:NWL vs us):vs.length=us.length:=by induction h with
 | nil=>rfl
 | cons _ _ ih=>simp [ih]
theorem NWL.at {vs us:List VV} (h:NWL vs us): ∀ (i:Nat) (u:VV),us[i]? = some u→ ∃ v,vs[i]? = some v∧NW v u:=by
 induction h with
 | nil=>intro i u h;simp at h
 | cons h t ih =>
  intro i u hu
  cases i with
  | zero=>exact ⟨_,rfl,by simp at hu;subst hu;exact h⟩
  | succ i=>exact ih i u (by simpa using hu)
theorem NW.refl (v:VV):NW v v:=fun _ _ _ _ h=>h
theorem NW.nil0:NW (.sc (.slice none 0 0)) (.ro 0 []):=fun w Z ρ y h=>by cases h;exact .ro0
theorem NW.ro {n:Nat} {vs us:List VV} (h:NWL vs us):NW (.ro n vs) (.ro n us):=fun w Z ρ y hv=>by
 cases hv with
 | @ro _ k o c' _ cs hZ hn hlen hcell hrel =>
  refine .ro (cs:=cs) hZ hn (h.len.symm.trans hlen) hcell fun i u c hu hc=> ?_
  obtain ⟨v,h1,h2⟩:=h.at i u hu
  exact h2 _ _ _ _ (hrel i v c h1 hc)
 | ro0 =>
  cases h
  exact .ro0
theorem Frz.nw {K:Heap} {v x u:VV} (h:Frz K v x) (g:NW x u):Frz K v u:=fun B w Z ρ ρ2 y hr hv=>g _ _ _ _ (h B w Z ρ ρ2 y hr hv)
theorem GOp.drawn1V {o:Oper} {ts:List VV} {H:Heap} {i:Nat} {x:List UInt8} (ho:o.op= .buildSlice 31 1 #[(0,.tmp i)]) (hx:ts[i]? = some (.ag [iV 11,Qe x,iV 0,.sc (.slice none 0 0)])) (ha:(ts.set i .junk).all scB=true) :
  GOp Tryz.prog o ts H (fun u K'=>Is u (.ro 1 (rowsN [.mk 11 x 0 []])) K' H):=⟨by
 have hv:vop Tryz.prog o ts ⟨[],0⟩=some (.sl 0 0 1 (some 1) 4,⟨[(0,.cells true [iV 11,Qe x,iV 0,.sc (.slice none 0 0)])],1⟩):=by
  have hz:Jv Tryz.prog 33=some 4:=by kernel_rfl
  have hl:Ke Tryz.prog 33=some [.sc (.int .i64 0),.sc (.string ⟨#[]⟩),.sc (.int .i64 0),.sc (.slice none 0 0)]:=by kernel_rfl
  have he:Ql ts (.tmp i)= .ag [iV 11,Qe x,iV 0,.sc (.slice none 0 0)]:=by simp only [Ql,hx,Option.getD_some]
  have h1:cellsOf (.ag [iV 11,Qe x,iV 0,.sc (.slice none 0 0)])=some [iV 11,Qe x,iV 0,.sc (.slice none 0 0)]:=rfl
  simp only [vop,ho,Y5,Tryz.underlying31,hz,hl,List.map_cons,List.map_nil,he,Cd,h1]
  rfl
 have hn0: ∀ v∈ [iV 11,Qe x,iV 0,.sc (.slice none 0 0)],Qq v:=fun v hv=>by
  simp only [List.mem_cons,List.not_mem_nil,or_false] at hv
  rcases hv with rfl|rfl|rfl|rfl
  ·exact Qb _
  ·exact Qd _
  ·exact Qb _
  ·exact Qb _
 have hn: ∀ v∈ts,Qq v:=fun v hv=>by
  obtain ⟨j,hj,e⟩:=List.mem_iff_getElem.1 hv
  by_cases hji:j=i
  ·subst hji
   rw [List.getElem?_eq_getElem hj,e] at hx
   injection hx with hx
   subst hx
   exact Xs hn0
  ·refine Zd (List.all_eq_true.1 ha v ?_)
   refine List.mem_iff_getElem.2 ⟨j,by simpa using hj,?_⟩
   rw [List.getElem_set_ne (fun h=>hji h.symm)]
   exact e
 refine (Jb.frozen (u:= .ro 1 (rowsN [.mk 11 x 0 []])) hn hv ?_).mono fun x K' e=>⟨e.1,e.2⟩
 have h:=Frz.sl (K:=⟨[(0,.cells true [iV 11,Qe x,iV 0,.sc (.slice none 0 0)])],1⟩) (b:=0) (o:=0) (n:=1) (z:=4) (c:=some 1) rfl (by simp) hn0
 refine h.nw (NW.ro ?_)
 exact .cons (.refl _) (.cons (.refl _) (.cons (.refl _) (.cons .nil0 .nil)))⟩
theorem frz_two' {K:Heap} {b:Nat} {vs:List VV} (op:Nat) (t:List UInt8) (n:Nat) (k:List Nd) {c:Nat} (hc:c=k.length) (hg:K.get b=some (.opt vs)) (hv:vs=rowsN k):Frz K (.ag [iV op,Qe t,iV n,.gs b c 4]) (nV (.mk op t n k)):=by
 subst hv hc
 rw [nV,cellsN]
 exact Frz.agT (.cons (.of (Qb _)) (.cons (.of (Qd _)) (.cons (.of (Qb _)) (.cons (Frz.gs hg (Q0 k) (Qh k)) .nil))))
theorem inLG_call {H:Heap} {b:Nat} (l:List (List UInt8)) (x:List UInt8) (hl:l.length≤100000) (hg:H.get b=some (.opt (l.map Qe))):Qc Tryz.prog 24 [.gs b l.length 1,Qe x] H (fun v K=>v=Yg (l.contains x)∧K=H) :=
 Qc.viewed (args':= [.ro l.length (l.map Qe),Qe x]) (Q:=fun v K=>v=Yg (l.contains x)) (.cons (Kv.gs hg (by simp) (Jg Qd l)) (.cons (Kv.of (Qd x)) .nil)) ((dinL_call l hl x _).mono fun v K e=>e.1) (fun v K e=>by subst e;exact Frx.of (Xn _))
theorem onD_rest (s:PSt):OkD (Q5 [111,110] s) (onD s).2:=(((U7 _).trans (Xj _ _)).trans (listS_okD varS_okD _)).trans (Nc _ _)
theorem onD_lt (s:PSt) (h:(onD s).2.e=0):(onD s).2.l.length < s.l.length:=by
 have o:=(onD_rest s).ok
 have he:(Q5 [111,110] s).e=0:=by
  by_cases hz:(Q5 [111,110] s).e=0
  ·exact hz
  ·have:=o.err hz
   omega
 have h1:=(Kl he).1
 have h2:=o.len
 omega
theorem scLoopD_len: ∀ (f:Nat) (out:List Nd) (s:PSt),(scLoopD f out s).1.length≤out.length+f
 | 0,out,s=>by simp [scLoopD]
 | f+1,out,s=>by
  unfold scLoopD
  split
  ·have:=scLoopD_len f (out++ [(onD s).1]) (onD s).2
   simp only [List.length_append,List.length_cons,List.length_nil] at this
   omega
  ·simp only;omega
theorem parseD_of (hbl: ∀ (L:List (Sg×Nat)),L.length≤50000→ ∀ (n:Nat) (s:PSt),At L n s→Jw L 23 [] s (nV (blD n s).1) (blD n s).2) (t:List UInt8) (ht:t.length≤50000) (H:Heap):Qc Tryz.prog 9 [Qe t] H (fun v K=>v= .tp [nV (Ed t).1,iV (Ed t).2]∧K=H):=by
 refine Qc.frozen (Q:=fun v K=>Frz K v (.tp [nV (Ed t).1,iV (Ed t).2])) (by simp [Qd]) ?_ (fun v K h=>h)
 have hsg: ∀ H,Qc Tryz.prog 19 [Qe t] H (fun v K=>v=sgsD (Yi t)∧K=H):=fun H=>Qc.viewed (args':= [Qe t]) (.cons (Kv.of (Qd t)) .nil) (dsigns_call t (by omega)) (fun v K e=>e)
 have hz:nV nd0= .ag [iV 0,Qe [],iV 0,.ro 0 []]:=by rw [nd0,nV,cellsN,rowsN];rfl
 have fz: ∀ (K:Heap) (e:Nat),Frz K (.tp [.ag [iV 0,Qe [],iV 0,.sc (.slice none 0 0)],iV e]) (.tp [nV nd0,iV e]):=fun K e=>by
  rw [hz]
  exact Frz.tp (.cons (Frz.agT (.cons (.of (Qb _)) (.cons (.of (Qd _)) (.cons (.of (Qb _)) (.cons Frz.nil0 .nil))))) (.cons (.of (Qb _)) .nil))
 unfold Ed
 have hk:True:=trivial
 have hi:True:=trivial
 cases hS:Yi t with
 | inl e =>
  as_aux_lemma =>
  have he:=Ea hS
  rw [hS] at hsg
  simp only [sgsD] at hsg
  refine Qc.go Tryz.func9 rfl ?_
  (repeat' (first|with_reducible refine And.intro ?_ ?_|(with_reducible intro hc;(try simp only [zz] at hc);try exact ct)|((conv=>whnf);first|(with_reducible first|refine And.intro ?_ ?_|intro hx|apply Val.via|apply Qi.via)|exact Is.mk rfl rfl|refine sp ?_|refine vx (by (first|exact Qj 0 hi rfl rfl (Qp rfl rfl rfl)|exact Qg hk rfl|exact Qg hk (J3 rfl rfl)|exact Qo rfl rfl|exact Qa rfl rfl rfl|rfl)) ?_|refine dY ?_|refine cl (hsg _) ?_|refine sq ?_)))
  (all_goals try exact om)
  all_goals exact Qf.mk (fz _ e)
 | inr L =>
 obtain ⟨hw,hl⟩:=Nt hS
 have hL:L.length≤50000:=by omega
 rw [hS] at hsg
 simp only [sgsD] at hsg
 have ki:=fun (x:List UInt8) (s2:PSt) (h1:At L 2000 s2) (H:Heap) (hb:H.get 1=some (pD L s2))=>Jw.at (Qb _) (by simp [Qd]) (Do L x s2 h1.wf h1.suf (by omega)) hb
 have km:=fun (x:List UInt8) (s2:PSt) (h1:At L 2000 s2) (H:Heap) (hb:H.get 1=some (pD L s2))=>Jw.at (Ja (by simp)) (by simp [Qd]) (C7 L x s2 h1.wf h1.suf (by omega)) hb
 have kn:=fun (s2:PSt) (h1:At L 2000 s2) (H:Heap) (hb:H.get 1=some (pD L s2))=>Jw.at (Qd _) (by simp) (rname_call L s2 h1.wf h1.suf (by omega)) hb
 have kb:=fun (s2:PSt) (h1:At L 2000 s2) (H:Heap) (hb:H.get 1=some (pD L s2))=>Jw.at (Qk _) (by simp) (hbl L hL (s2.l.length+1) s2 ⟨h1.wf,h1.suf,Nat.lt_succ_self _,h1.dep⟩) hb
 generalize hR:scLoopD (L.length+2) [] ⟨L,0,0⟩=R
 have hq:U4 ⟨L,0,0⟩=(.mk 0 [] 0 R.1,R.2):=by rw [← hR];rfl
 have hRl:R.1.length≤2000:=by
  have h:=scLoopD_len (L.length+2) [] ⟨L,0,0⟩
  simp only [List.length_nil] at h
  rw [← hR]
  omega
 simp only [hq]
 refine Qc.go Tryz.func9 rfl ?_
 (repeat' (first|with_reducible refine And.intro ?_ ?_|(with_reducible intro hc;(try simp only [zz] at hc);try exact ct)|((conv=>whnf);first|(with_reducible first|refine And.intro ?_ ?_|intro hx|apply Val.via|apply Qi.via)|exact Is.mk rfl rfl|refine sp ?_|refine vx (by (first|exact Qj 0 hi rfl rfl (Qp rfl rfl rfl)|exact Qg hk rfl|exact Qg hk (J3 rfl rfl)|exact Qo rfl rfl|exact Qa rfl rfl rfl|rfl)) ?_|refine cl (hsg _) ?_|refine sq ?_)))
 (all_goals try exact om)
 (refine Ji.mk (GWP.loopB [1,2] (fun (a:Nat×List Nd×PSt)=>scLoopD a.1 a.2.1 a.2.2=R∧(a.2.2.e=0→a.2.2.l.length < a.1)∧At L 2000 a.2.2∧a.2.1.length+a.1=L.length+2) (fun _=> []) (fun a=> [(1,pD L a.2.2),(2,.cells true [iV 0,Qe [],iV 0,.gs 3 a.2.1.length 4]),(3,.opt (rowsN a.2.1))]) 4 (fun a=>a.1) (L.length+2,[],⟨L,0,0⟩) ⟨hR,fun _=>by simp only;omega,⟨hw,List.suffix_refl _,by show L.length < 2000;omega,by show 0≤16;omega⟩,by simp⟩ ?_);(conv=>whnf);refine And.intro ?_ ?_)
 ·focus (refine ka [] ?_ ?_;all_goals (repeat' (first|exact rz|refine And.intro ?_ ?_|refine Exists.intro _ (And.intro rfl ?_)|refine ro ?_|refine Qu.cons ?_ ?_|(first|exact Y0 _ _|exact Qn.gsN|exact Qn.gsZ|exact Qn.eq rfl (Jl _)|exact Qn.eq (Qz (by omega)) (Qb _)|exact Qn.eq rfl (Qb _)|exact Qu.eq (us:=rowsN _) rfl (Qh _)|exact Qn.eq rfl (Qx (Qh _)))|exact rv)))
 rintro ⟨f,out,st⟩ ⟨g1,g2,g3,g4⟩
 simp only at g1 g2 g3 g4 ⊢
 obtain ⟨l,d,e⟩:=st
 obtain ⟨g,a,r,hl0⟩:=g3.wf.ne
 have hl0:l=(g,a)::r:=hl0
 subst hl0
 obtain ⟨kd,tx0,nm0⟩:=g
 clear hi
 obtain ⟨hi,hlen⟩:=Zc g3.suf
 have hd16:d≤16:=g3.dep
 have k1:=km [111,110] ⟨(⟨kd,tx0,nm0⟩,a)::r,d,e⟩ g3
 by_cases he:e=0∧Ej ⟨(⟨kd,tx0,nm0⟩,a)::r,d,e⟩=false
 ·obtain ⟨rfl,hen⟩:=he
  have g2:=g2 rfl
  obtain ⟨f,rfl⟩: ∃ f',f=f'+1:=⟨f - 1,by omega⟩
  rw [scLoopD,if_pos ⟨rfl,hen⟩] at g1
  have hkd:kd≠0:=by simpa [Ej] using hen
  have hlt0:=onD_lt ⟨(⟨kd,tx0,nm0⟩,a)::r,d,0⟩
  have o1:=Xj [111,110] ⟨(⟨kd,tx0,nm0⟩,a)::r,d,0⟩
  have hon:onD ⟨(⟨kd,tx0,nm0⟩,a)::r,d,0⟩=onD ⟨(⟨kd,tx0,nm0⟩,a)::r,d,0⟩:=rfl
  conv at hon=>rhs;unfold onD
  generalize Q5 [111,110] ⟨(⟨kd,tx0,nm0⟩,a)::r,d,0⟩=s1 at *
  have a1:=g3.of o1
  have k2:=kn s1 a1
  have o2:=U7 s1
  cases hq2:nmS s1 with
  | mk x s2 =>
  rw [hq2] at k2 o2 hon
  simp only at k2 o2 hon
  have a2:=a1.of o2
  have k3:=km [40] s2 a2
  have o3:=Xj [40] s2
  generalize Q5 [40] s2=s3 at *
  have a3:=a2.of o3
  have k4:=ki [41] s3 a3
  have i4:=K7 (x:= [41]) (s:=s3)
  have o4:=X0 [41] s3
  unfold Xt at hon
  rw [Y1 L ((⟨kd,tx0,nm0⟩,a)::r) d 0] at k1 ⊢
  simp only [List.length_cons] at k1 g2 hlen hlt0 ⊢
  generalize hI:L.length - (r.length+1)=i at *
  have hil:i < L.length:=by omega
  (repeat' (first|with_reducible refine And.intro ?_ ?_|(with_reducible intro hc;(try simp only [zz] at hc);try exact ct)|((conv=>whnf);first|(with_reducible first|refine And.intro ?_ ?_|intro hx|apply Val.via|apply Qi.via)|exact Is.mk rfl rfl|refine sp ?_|refine vx (by (first|exact Qj 0 hi rfl rfl (Qp rfl rfl rfl)|exact Qg hk rfl|exact Qg hk (J3 rfl rfl)|exact Qo rfl rfl|exact Qa rfl rfl rfl|rfl)) ?_|fail|refine sq ?_)))
  (all_goals try exact om)
  refine Ji.mk (GWP.drawY mixed _ (by kernel_rfl) (by rfl) ?_)
  cases hc4:(isS [41] s3).1 with
  | true =>
   as_aux_lemma =>
   obtain ⟨p3,r3,q1,q2,q3⟩:=i4 hc4
   rw [hc4] at k4
   rw [hc4,if_pos rfl] at hon
   rw [q2] at hon o4
   obtain ⟨l3,d3,e3⟩:=s3
   obtain rfl:e3=0:=q3
   obtain rfl:l3=p3::r3:=q1
   have hpn3:=fun z hz=>Kq (L:=L) (r:=r3) (d:=d3) (e:=0) a3.suf (z:=z) hz
   have hlen3:=(Zc a3.suf).2
   have hlc3:(p3::r3).length=r3.length+1:=rfl
   have a4:=a3.of o4
   (repeat' (first|with_reducible refine And.intro ?_ ?_|(with_reducible intro hc;(try simp only [zz] at hc);try exact ct)|((conv=>whnf);first|(with_reducible first|refine And.intro ?_ ?_|intro hx|apply Val.via|apply Qi.via)|exact Is.mk rfl rfl|refine sp ?_|refine vx (by (first|exact Qj 0 hi rfl rfl (Qp rfl rfl rfl)|exact Qg hk rfl|exact Qg hk (J3 rfl rfl)|exact Qo rfl rfl|exact Qa rfl rfl rfl|rfl)) ?_|(first|refine cl (k1 _ rfl) ?_|refine cl (k2 _ rfl) ?_|refine cl (k3 _ rfl) ?_|refine cl (k4 _ rfl) ?_)|refine sq ?_)))
   (all_goals try exact om)
   have k6:=kb ⟨r3,d3,0⟩ a4
   have o6:=Nc (r3.length+1) ⟨r3,d3,0⟩
   simp only at hon k6
   generalize blD (r3.length+1) ⟨r3,d3,0⟩=q6 at *
   obtain ⟨⟨op6,tx6,nm6,ks6⟩,s6⟩:=q6
   simp only [nV,cellsN] at k6
   simp only at hon
   have hsn:rowsN (out++ [.mk 1 x 0 (([]:List Nd)++ [.mk op6 tx6 nm6 ks6])])=rowsN out++ [iV 1,Qe x,iV 0,.ro 1 [iV op6,Qe tx6,iV nm6,.ro (List.length ks6) (rowsN ks6)]]:=by
    rw [Jy,cellsN,Jy,cellsN,rowsN]
    rfl
   have a6:At L 2000 s6:=a4.of o6
   refine Ji.mk (GWP.drawM mixed 127 [3,5,7] (fun H=> [⟨(1,pD L s6)::Qw [1] H.objs,H.next⟩,⟨(H.next+1,.opt [iV op6,Qe tx6,iV nm6,.ro (List.length ks6) (rowsN ks6)])::(1,pD L s6)::Qw [1] H.objs,H.next+2⟩,(⟨(H.next+1,.opt [iV op6,Qe tx6,iV nm6,.ro (List.length ks6) (rowsN ks6)])::(1,pD L s6)::Qw [1] H.objs,H.next+2⟩:Heap).set 4 (.cells true [iV 1,Qe x,iV 0,.gs (H.next+1) 1 4])]) (by kernel_rfl) (by rfl) ?_)
   repeat' (first|with_reducible refine And.intro ?_ ?_|(with_reducible intro hc;(try simp only [zz] at hc);try exact ct)|exact trivial|((conv=>whnf);first|with_reducible refine And.intro ?_ ?_|with_reducible intro hx|exact Is.mk rfl rfl|exact trivial|(with_reducible first|apply Val.via|apply Qi.via)|(first|refine GOp.drawn1D (n:= .mk op6 tx6 nm6 ks6) (by rfl) (by rfl) (by rfl)|(refine Qs (Qr.grow0 rfl sty_ND (d:= .slice 33) Tryz.underlying31 (by intro k h;cases h) (by exact .inl rfl) (m:=1) (l:= [iV op6,Qe tx6,iV nm6,.ro (List.length ks6) (rowsN ks6)]) (fun y=>rfl) (by rfl) (by decide) (by decide) ?_))|(refine Qs (Qr.freezeAg 93 rfl rfl (by first|exact Q0 _|rfl|(simp only [List.length_append,Q0,List.length_cons,List.length_nil];omega)) (Qr.via (by rfl) ?_))))|refine sp ?_|refine vx (by (first|exact Qj 0 hi rfl rfl (Qp rfl rfl rfl)|exact Qg hk rfl|exact Qg hk (J3 rfl rfl)|exact Qo rfl rfl|exact Qa rfl rfl rfl|rfl)) ?_|(first|refine cl (k6 _ (by exact hpn3 _ rfl)) ?_|(refine Qs (Qr.grow rfl sty_ND (d:= .slice 33) Tryz.underlying31 (by intro k h;cases h) rfl (m:=1) (l:= [iV 1,Qe x,iV 0,.ro 1 [iV op6,Qe tx6,iV nm6,.ro (List.length ks6) (rowsN ks6)]]) (by rfl) (by rfl) rfl (Q0 out) (by omega) (by omega) ?_)))|refine sq ?_))
   (all_goals try exact om)
   focus (refine Qf.mk ⟨(f,out++ [.mk 1 x 0 (([]:List Nd)++ [.mk op6 tx6 nm6 ks6])],s6),⟨by rw [hon] at g1;exact g1,fun h=>by have:=hlt0 (by rw [hon];exact h);rw [hon] at this;simp only at this ⊢;omega,a6,by simp only [List.length_append,List.length_cons,List.length_nil];omega⟩,?_,ka [(8,3)] ?_ ?_⟩;(first|omega|(simp only;omega));all_goals (repeat' (first|exact rz|refine And.intro ?_ ?_|refine Exists.intro _ (And.intro rfl ?_)|refine ro ?_|refine Qu.cons ?_ ?_|(first|exact Qu.eq hsn.symm (Qh _)|(first|exact Y0 _ _|exact Qn.gsN|exact Qn.gsZ|exact Qn.eq rfl (Jl _)|exact Qn.eq (Qz (by omega)) (Qb _)|exact Qn.eq rfl (Qb _)|exact Qu.eq (us:=rowsN _) rfl (Qh _)|exact Qn.eq rfl (Qx (Qh _))))|exact rv)))
  | false =>
   rw [hc4] at k4
   as_aux_lemma =>
   rw [hc4,if_neg (by decide)] at hon
   (repeat' (first|with_reducible refine And.intro ?_ ?_|(with_reducible intro hc;(try simp only [zz] at hc);try exact ct)|((conv=>whnf);first|(with_reducible first|refine And.intro ?_ ?_|intro hx|apply Val.via|apply Qi.via)|exact Is.mk rfl rfl|refine sp ?_|refine vx (by (first|exact Qj 0 hi rfl rfl (Qp rfl rfl rfl)|exact Qg hk rfl|exact Qg hk (J3 rfl rfl)|exact Qo rfl rfl|exact Qa rfl rfl rfl|rfl)) ?_|(first|refine cl (k1 _ rfl) ?_|refine cl (k2 _ rfl) ?_|refine cl (k3 _ rfl) ?_|refine cl (k4 _ rfl) ?_)|refine sq ?_)))
   (all_goals try exact om)
   generalize hQ:J4 varS (s3.l.length+2) [] s3=Q at hon
   (refine Ji.mk (GWP.loopB [1,4] (fun (a:Nat×List Nd×PSt)=>J4 varS a.1 a.2.1 a.2.2=Q∧(a.2.2.e=0→a.2.2.l.length < a.1)∧At L 2000 a.2.2∧a.2.1.length+a.1=s3.l.length+2) (fun _=> []) (fun a=> [(1,pD L a.2.2),(4,.cells true [iV 1,Qe x,iV 0,.gs 5 a.2.1.length 4]),(5,.opt (rowsN a.2.1))]) 6 (fun a=>a.1) (s3.l.length+2,[],s3) ⟨hQ,fun _=>by simp only;omega,a3,by simp only [List.length_nil];omega⟩ ?_);(conv=>whnf);refine And.intro ?_ ?_)
   ·focus (refine ka [] ?_ ?_;all_goals (repeat' (first|exact rz|refine And.intro ?_ ?_|refine Exists.intro _ (And.intro rfl ?_)|refine ro ?_|refine Qu.cons ?_ ?_|(first|exact Y0 _ _|exact Qn.gsN|exact Qn.gsZ|exact Qn.eq rfl (Jl _)|exact Qn.eq (Qz (by omega)) (Qb _)|exact Qn.eq rfl (Qb _)|exact Qu.eq (us:=rowsN _) rfl (Qh _)|exact Qn.eq rfl (Qx (Qh _)))|exact rv)))
   rintro ⟨f2,ks,s4⟩ ⟨m1,m2,m3,m4⟩
   simp only at m1 m2 m3 m4 ⊢
   have hl3:s3.l.length < 2000:=a3.len
   by_cases he2:s4.e=0
   ·have m2:=m2 he2
    obtain ⟨f2,rfl⟩: ∃ f',f2=f'+1:=⟨f2 - 1,by omega⟩
    rw [J4,if_pos he2] at m1
    rw [show varS s4=(.mk 11 (nmS s4).1 0 [],(nmS s4).2) from rfl] at m1
    have k5:=kn s4 m3
    have o5:=U7 s4
    cases hq5:nmS s4 with
    | mk x5 s5 =>
    rw [hq5] at k5 o5 m1
    simp only at k5 o5 m1
    have a5:=m3.of o5
    have l5:s5.l.length≤s4.l.length:=o5.ok.len
    have k7:=ki [41] s5 a5
    have i7:=K7 (x:= [41]) (s:=s5)
    have o7:=X0 [41] s5
    have hsk:rowsN (ks++ [.mk 11 x5 0 []])=rowsN ks++ [iV 11,Qe x5,iV 0,.ro (List.length ([]:List Nd)) (rowsN ([]:List Nd))]:=by rw [Jy,cellsN];rfl
    obtain ⟨l4,d4,e4⟩:=s4
    obtain rfl:e4=0:=he2
    cases hc7:(isS [41] s5).1 with
    | true =>
     as_aux_lemma =>
     obtain ⟨p5,r5,q1,q2,q3⟩:=i7 hc7
     rw [hc7] at k7
     rw [hc7,if_pos rfl] at m1
     rw [q2] at m1 o7
     subst m1
     obtain ⟨ll5,d5,e5⟩:=s5
     obtain rfl:e5=0:=q3
     obtain rfl:ll5=p5::r5:=q1
     have hpn5:=fun z hz=>Kq (L:=L) (r:=r5) (d:=d5) (e:=0) a5.suf (z:=z) hz
     have hlen5:=(Zc a5.suf).2
     have hlc5:(p5::r5).length=r5.length+1:=rfl
     have a7:=a5.of o7
     (repeat' (first|with_reducible refine And.intro ?_ ?_|(with_reducible intro hc;(try simp only [zz] at hc);try exact ct)|((conv=>whnf);first|(with_reducible first|refine And.intro ?_ ?_|intro hx|apply Val.via|apply Qi.via)|exact Is.mk rfl rfl|refine sp ?_|refine vx (by (first|exact Qj 0 hi rfl rfl (Qp rfl rfl rfl)|exact Qg hk rfl|exact Qg hk (J3 rfl rfl)|exact Qo rfl rfl|exact Qa rfl rfl rfl|rfl)) ?_|fail|refine sq ?_)))
     (all_goals try exact om)
     refine Ji.mk (GWP.drawM mixed 127 [3,6,8] (fun H=> [⟨(1,pD L ⟨p5::r5,d5,0⟩)::Qw [1] H.objs,H.next⟩,((⟨(1,pD L ⟨p5::r5,d5,0⟩)::Qw [1] H.objs,H.next⟩:Heap).del 5).add (.opt (rowsN ks++ [iV 11,Qe x5,iV 0,.ro (List.length ([]:List Nd)) (rowsN ([]:List Nd))])),(((⟨(1,pD L ⟨p5::r5,d5,0⟩)::Qw [1] H.objs,H.next⟩:Heap).del 5).add (.opt (rowsN ks++ [iV 11,Qe x5,iV 0,.ro (List.length ([]:List Nd)) (rowsN ([]:List Nd))]))).set 4 (.cells true [iV 1,Qe x,iV 0,.gs H.next (ks.length+1) 4])]) (by kernel_rfl) (by rfl) ?_)
     repeat' (first|with_reducible refine And.intro ?_ ?_|(with_reducible intro hc;(try simp only [zz] at hc);try exact ct)|exact trivial|((conv=>whnf);first|with_reducible refine And.intro ?_ ?_|with_reducible intro hx|exact Is.mk rfl rfl|exact trivial|(with_reducible first|apply Val.via|apply Qi.via)|(refine GOp.drawn1V (x:=x5) (by rfl) (by rfl) (by rfl))|refine sp ?_|refine vx (by (first|exact Qj 0 hi rfl rfl (Qp rfl rfl rfl)|exact Qg hk rfl|exact Qg hk (J3 rfl rfl)|exact Qo rfl rfl|exact Qa rfl rfl rfl|rfl)) ?_|(first|refine cl (k5 _ rfl) ?_|refine cl (k7 _ rfl) ?_|(refine Qs (Qr.grow rfl sty_ND (d:= .slice 33) Tryz.underlying31 (by intro k h;cases h) rfl (m:=1) (l:= [iV 11,Qe x5,iV 0,.ro (List.length ([]:List Nd)) (rowsN ([]:List Nd))]) (by rfl) (by rfl) rfl (Q0 ks) (by omega) (by omega) ?_)))|refine sq ?_))
     (all_goals try exact om)
     have k6:=kb ⟨r5,d5,0⟩ a7
     have o6:=Nc (r5.length+1) ⟨r5,d5,0⟩
     simp only at hon k6
     generalize blD (r5.length+1) ⟨r5,d5,0⟩=q6 at *
     obtain ⟨⟨op6,tx6,nm6,ks6⟩,s6⟩:=q6
     simp only [nV,cellsN] at k6
     simp only at hon
     have hsn:rowsN (out++ [.mk 1 x 0 ((ks++ [.mk 11 x5 0 []])++ [.mk op6 tx6 nm6 ks6])])=rowsN out++ [iV 1,Qe x,iV 0,.ro ((List.length ks+1)+1) ((rowsN ks++ [iV 11,Qe x5,iV 0,.ro (List.length ([]:List Nd)) (rowsN ([]:List Nd))])++ [iV op6,Qe tx6,iV nm6,.ro (List.length ks6) (rowsN ks6)])]:=by
      rw [Jy,cellsN,Jy,cellsN,hsk,List.length_append,List.length_append]
      rfl
     have a6:At L 2000 s6:=a7.of o6
     (refine Ji.mk (GWP.drawM mixed 127 [3,5,7] (fun H=> [⟨(1,pD L s6)::Qw [1] H.objs,H.next⟩,((⟨(1,pD L s6)::Qw [1] H.objs,H.next⟩:Heap).del 6).add (.opt ((rowsN ks++ [iV 11,Qe x5,iV 0,.ro (List.length ([]:List Nd)) (rowsN ([]:List Nd))])++ [iV op6,Qe tx6,iV nm6,.ro (List.length ks6) (rowsN ks6)])),(((⟨(1,pD L s6)::Qw [1] H.objs,H.next⟩:Heap).del 6).add (.opt ((rowsN ks++ [iV 11,Qe x5,iV 0,.ro (List.length ([]:List Nd)) (rowsN ([]:List Nd))])++ [iV op6,Qe tx6,iV nm6,.ro (List.length ks6) (rowsN ks6)]))).set 4 (.cells true [iV 1,Qe x,iV 0,.gs H.next ((List.length ks+1)+1) 4])]) (by kernel_rfl) (by rfl) ?_);(repeat' (first|with_reducible refine And.intro ?_ ?_|(with_reducible intro hc;(try simp only [zz] at hc);try exact ct)|exact trivial|((conv=>whnf);first|with_reducible refine And.intro ?_ ?_|with_reducible intro hx|exact Is.mk rfl rfl|exact trivial|(with_reducible first|apply Val.via|apply Qi.via)|(first|refine GOp.drawn1D (n:= .mk op6 tx6 nm6 ks6) (by rfl) (by rfl) (by rfl)|(refine Qs (Qr.freezeAg 93 rfl rfl (by first|exact Q0 _|rfl|(simp only [List.length_append,Q0,List.length_cons,List.length_nil];omega)) (Qr.via (by rfl) ?_))))|refine sp ?_|refine vx (by (first|exact Qj 0 hi rfl rfl (Qp rfl rfl rfl)|exact Qg hk rfl|exact Qg hk (J3 rfl rfl)|exact Qo rfl rfl|exact Qa rfl rfl rfl|rfl)) ?_|(first|refine cl (k6 _ (by exact hpn5 _ rfl)) ?_|(refine Qs (Qr.grow rfl sty_ND (d:= .slice 33) Tryz.underlying31 (by intro k h;cases h) rfl (m:=1) (l:= [iV op6,Qe tx6,iV nm6,.ro (List.length ks6) (rowsN ks6)]) (by rfl) (by rfl) rfl (by first|exact Q0 _|(simp only [List.length_append,Q0,List.length_cons,List.length_nil];omega)) (by omega) (by omega) ?_))|(refine Qs (Qr.grow rfl sty_ND (d:= .slice 33) Tryz.underlying31 (by intro k h;cases h) rfl (m:=1) (l:= [iV 1,Qe x,iV 0,.ro ((List.length ks+1)+1) (((rowsN ks++ [iV 11,Qe x5,iV 0,.ro (List.length ([]:List Nd)) (rowsN ([]:List Nd))])++ [iV op6,Qe tx6,iV nm6,.ro (List.length ks6) (rowsN ks6)]))]) (by rfl) (by rfl) rfl (Q0 out) (by omega) (by omega) ?_)))|refine sq ?_)));(all_goals try exact om);focus (refine Qf.mk ⟨(f,out++ [.mk 1 x 0 ((ks++ [.mk 11 x5 0 []])++ [.mk op6 tx6 nm6 ks6])],s6),⟨by rw [hon] at g1;exact g1,fun h=>by have:=hlt0 (by rw [hon];exact h);rw [hon] at this;simp only at this ⊢;omega,a6,by simp only [List.length_append,List.length_cons,List.length_nil];omega⟩,?_,ka [(9,3)] ?_ ?_⟩;(first|omega|(simp only;omega));all_goals (repeat' (first|exact rz|refine And.intro ?_ ?_|refine Exists.intro _ (And.intro rfl ?_)|refine ro ?_|refine Qu.cons ?_ ?_|(first|exact Qu.eq hsn.symm (Qh _)|(first|exact Y0 _ _|exact Qn.gsN|exact Qn.gsZ|exact Qn.eq rfl (Jl _)|exact Qn.eq (Qz (by omega)) (Qb _)|exact Qn.eq rfl (Qb _)|exact Qu.eq (us:=rowsN _) rfl (Qh _)|exact Qn.eq rfl (Qx (Qh _))))|exact rv))))
    | false =>
     rw [hc7] at k7
     as_aux_lemma =>
     rw [hc7,if_neg (by decide)] at m1
     have k8:=km [44] s5 a5
     have o8:=Xj [44] s5
     have ml:=Kl (x:= [44]) (s:=s5)
     generalize Q5 [44] s5=s8 at *
     have a8:=a5.of o8
     (repeat' (first|with_reducible refine And.intro ?_ ?_|(with_reducible intro hc;(try simp only [zz] at hc);try exact ct)|((conv=>whnf);first|(with_reducible first|refine And.intro ?_ ?_|intro hx|apply Val.via|apply Qi.via)|exact Is.mk rfl rfl|refine sp ?_|refine vx (by (first|exact Qj 0 hi rfl rfl (Qp rfl rfl rfl)|exact Qg hk rfl|exact Qg hk (J3 rfl rfl)|exact Qo rfl rfl|exact Qa rfl rfl rfl|rfl)) ?_|fail|refine sq ?_)))
     (all_goals try exact om)
     refine Ji.mk (GWP.drawM mixed 127 [3,6,8] (fun H=> [⟨(1,pD L s5)::Qw [1] H.objs,H.next⟩,((⟨(1,pD L s5)::Qw [1] H.objs,H.next⟩:Heap).del 5).add (.opt (rowsN ks++ [iV 11,Qe x5,iV 0,.ro (List.length ([]:List Nd)) (rowsN ([]:List Nd))])),(((⟨(1,pD L s5)::Qw [1] H.objs,H.next⟩:Heap).del 5).add (.opt (rowsN ks++ [iV 11,Qe x5,iV 0,.ro (List.length ([]:List Nd)) (rowsN ([]:List Nd))]))).set 4 (.cells true [iV 1,Qe x,iV 0,.gs H.next (ks.length+1) 4])]) (by kernel_rfl) (by rfl) ?_)
     repeat' (first|with_reducible refine And.intro ?_ ?_|(with_reducible intro hc;(try simp only [zz] at hc);try exact ct)|exact trivial|((conv=>whnf);first|with_reducible refine And.intro ?_ ?_|with_reducible intro hx|exact Is.mk rfl rfl|exact trivial|(with_reducible first|apply Val.via|apply Qi.via)|(refine GOp.drawn1V (x:=x5) (by rfl) (by rfl) (by rfl))|refine sp ?_|refine vx (by (first|exact Qj 0 hi rfl rfl (Qp rfl rfl rfl)|exact Qg hk rfl|exact Qg hk (J3 rfl rfl)|exact Qo rfl rfl|exact Qa rfl rfl rfl|rfl)) ?_|(first|refine cl (k5 _ rfl) ?_|refine cl (k7 _ rfl) ?_|refine cl (k8 _ rfl) ?_|(refine Qs (Qr.grow rfl sty_ND (d:= .slice 33) Tryz.underlying31 (by intro k h;cases h) rfl (m:=1) (l:= [iV 11,Qe x5,iV 0,.ro (List.length ([]:List Nd)) (rowsN ([]:List Nd))]) (by rfl) (by rfl) rfl (Q0 ks) (by omega) (by omega) ?_)))|refine sq ?_))
     (all_goals try exact om)
     focus (refine Qf.mk ⟨(f2,ks++ [.mk 11 x5 0 []],s8),⟨m1,fun h=>by have:=(ml h).1;simp only at m2 l5 ⊢;omega,a8,by simp only [List.length_append,List.length_cons,List.length_nil];omega⟩,?_,ka [(6,5)] ?_ ?_⟩;(first|omega|(simp only;omega));all_goals (repeat' (first|exact rz|refine And.intro ?_ ?_|refine Exists.intro _ (And.intro rfl ?_)|refine ro ?_|refine Qu.cons ?_ ?_|(first|exact Qu.eq hsk.symm (Qh _)|(first|exact Y0 _ _|exact Qn.gsN|exact Qn.gsZ|exact Qn.eq rfl (Jl _)|exact Qn.eq (Qz (by omega)) (Qb _)|exact Qn.eq rfl (Qb _)|exact Qu.eq (us:=rowsN _) rfl (Qh _)|exact Qn.eq rfl (Qx (Qh _))))|exact rv)))
   ·as_aux_lemma =>
    have hxx:(ks,s4)=Q:=by
     rw [← m1]
     cases f2 with
     | zero=>rfl
     | succ f2=>rw [J4,if_neg he2]
    subst hxx
    simp only at hon
    obtain ⟨l4,d4,e4⟩:=s4
    have he2: ¬ e4=0:=he2
    (repeat' (first|with_reducible refine And.intro ?_ ?_|(with_reducible intro hc;(try simp only [zz] at hc);try exact ct)|((conv=>whnf);first|(with_reducible first|refine And.intro ?_ ?_|intro hx|apply Val.via|apply Qi.via)|exact Is.mk rfl rfl|refine sp ?_|refine vx (by (first|exact Qj 0 hi rfl rfl (Qp rfl rfl rfl)|exact Qg hk rfl|exact Qg hk (J3 rfl rfl)|exact Qo rfl rfl|exact Qa rfl rfl rfl|rfl)) ?_|fail|refine sq ?_)))
    (all_goals try exact om)
    have k6:=kb ⟨l4,d4,e4⟩ m3
    have o6:=Nc (l4.length+1) ⟨l4,d4,e4⟩
    simp only at hon k6
    generalize blD (l4.length+1) ⟨l4,d4,e4⟩=q6 at *
    obtain ⟨⟨op6,tx6,nm6,ks6⟩,s6⟩:=q6
    simp only [nV,cellsN] at k6
    simp only at hon
    have hsn:rowsN (out++ [.mk 1 x 0 (ks++ [.mk op6 tx6 nm6 ks6])])=rowsN out++ [iV 1,Qe x,iV 0,.ro (List.length ks+1) (rowsN ks++ [iV op6,Qe tx6,iV nm6,.ro (List.length ks6) (rowsN ks6)])]:=by
     rw [Jy,cellsN,Jy,cellsN,List.length_append]
     rfl
    have a6:At L 2000 s6:=m3.of o6
    (refine Ji.mk (GWP.drawM mixed 127 [3,5,7] (fun H=> [⟨(1,pD L s6)::Qw [1] H.objs,H.next⟩,((⟨(1,pD L s6)::Qw [1] H.objs,H.next⟩:Heap).del 5).add (.opt (rowsN ks++ [iV op6,Qe tx6,iV nm6,.ro (List.length ks6) (rowsN ks6)])),(((⟨(1,pD L s6)::Qw [1] H.objs,H.next⟩:Heap).del 5).add (.opt (rowsN ks++ [iV op6,Qe tx6,iV nm6,.ro (List.length ks6) (rowsN ks6)]))).set 4 (.cells true [iV 1,Qe x,iV 0,.gs H.next (List.length ks+1) 4])]) (by kernel_rfl) (by rfl) ?_);(repeat' (first|with_reducible refine And.intro ?_ ?_|(with_reducible intro hc;(try simp only [zz] at hc);try exact ct)|exact trivial|((conv=>whnf);first|with_reducible refine And.intro ?_ ?_|with_reducible intro hx|exact Is.mk rfl rfl|exact trivial|(with_reducible first|apply Val.via|apply Qi.via)|(first|refine GOp.drawn1D (n:= .mk op6 tx6 nm6 ks6) (by rfl) (by rfl) (by rfl)|(refine Qs (Qr.freezeAg 93 rfl rfl (by first|exact Q0 _|rfl|(simp only [List.length_append,Q0,List.length_cons,List.length_nil];omega)) (Qr.via (by rfl) ?_))))|refine sp ?_|refine vx (by (first|exact Qj 0 hi rfl rfl (Qp rfl rfl rfl)|exact Qg hk rfl|exact Qg hk (J3 rfl rfl)|exact Qo rfl rfl|exact Qa rfl rfl rfl|rfl)) ?_|(first|refine cl (k6 _ rfl) ?_|(refine Qs (Qr.grow rfl sty_ND (d:= .slice 33) Tryz.underlying31 (by intro k h;cases h) rfl (m:=1) (l:= [iV op6,Qe tx6,iV nm6,.ro (List.length ks6) (rowsN ks6)]) (by rfl) (by rfl) rfl (by first|exact Q0 _|(simp only [List.length_append,Q0,List.length_cons,List.length_nil];omega)) (by omega) (by omega) ?_))|(refine Qs (Qr.grow rfl sty_ND (d:= .slice 33) Tryz.underlying31 (by intro k h;cases h) rfl (m:=1) (l:= [iV 1,Qe x,iV 0,.ro (List.length ks+1) ((rowsN ks++ [iV op6,Qe tx6,iV nm6,.ro (List.length ks6) (rowsN ks6)]))]) (by rfl) (by rfl) rfl (Q0 out) (by omega) (by omega) ?_)))|refine sq ?_)));(all_goals try exact om);focus (refine Qf.mk ⟨(f,out++ [.mk 1 x 0 (ks++ [.mk op6 tx6 nm6 ks6])],s6),⟨by rw [hon] at g1;exact g1,fun h=>by have:=hlt0 (by rw [hon];exact h);rw [hon] at this;simp only at this ⊢;omega,a6,by simp only [List.length_append,List.length_cons,List.length_nil];omega⟩,?_,ka [(8,3)] ?_ ?_⟩;(first|omega|(simp only;omega));all_goals (repeat' (first|exact rz|refine And.intro ?_ ?_|refine Exists.intro _ (And.intro rfl ?_)|refine ro ?_|refine Qu.cons ?_ ?_|(first|exact Qu.eq hsn.symm (Qh _)|(first|exact Y0 _ _|exact Qn.gsN|exact Qn.gsZ|exact Qn.eq rfl (Jl _)|exact Qn.eq (Qz (by omega)) (Qb _)|exact Qn.eq rfl (Qb _)|exact Qu.eq (us:=rowsN _) rfl (Qh _)|exact Qn.eq rfl (Qx (Qh _))))|exact rv))))
 ·as_aux_lemma =>
  have hxx:(out,⟨(⟨kd,tx0,nm0⟩,a)::r,d,e⟩)=R:=by
   rw [← g1]
   cases f with
   | zero=>rfl
   | succ f=>rw [scLoopD,if_neg he]
  subst hxx
  rw [Y1 L ((⟨kd,tx0,nm0⟩,a)::r) d e]
  simp only [List.length_cons] at hlen ⊢
  generalize hI:L.length - (r.length+1)=i at *
  have hil:i < L.length:=by omega
  by_cases he0:e=0
  ·subst he0
   have hkd:kd=0:=by
    cases h:Ej ⟨(⟨kd,tx0,nm0⟩,a)::r,d,0⟩ with
    | true=>simpa [Ej] using h
    | false=>exact absurd ⟨rfl,h⟩ he
   subst hkd
   rw [if_neg (by simp),resP_eq]
   have hol:out.length≤2000:=hRl
   (repeat' (first|with_reducible refine And.intro ?_ ?_|(with_reducible intro hc;(try simp only [zz] at hc);try exact ct)|((conv=>whnf);first|(with_reducible first|refine And.intro ?_ ?_|intro hx|apply Val.via|apply Qi.via)|exact Is.mk rfl rfl|refine sp ?_|refine vx (by (first|exact Qj 0 hi rfl rfl (Qp rfl rfl rfl)|exact Qg hk rfl|exact Qg hk (J3 rfl rfl)|exact Qo rfl rfl|exact Qa rfl rfl rfl|rfl)) ?_|fail|refine sq ?_)))
   (all_goals try exact om)
   refine Ji.mk (GWP.drawY mixed _ (by kernel_rfl) (by rfl) ?_)
   (repeat' (first|with_reducible refine And.intro ?_ ?_|(with_reducible intro hc;(try simp only [zz] at hc);try exact ct)|((conv=>whnf);first|(with_reducible first|refine And.intro ?_ ?_|intro hx|apply Val.via|apply Qi.via)|exact Is.mk rfl rfl|refine sp ?_|refine vx (by (first|exact Qj 0 hi rfl rfl (Qp rfl rfl rfl)|exact Qg hk rfl|exact Qg hk (J3 rfl rfl)|exact Qo rfl rfl|exact Qa rfl rfl rfl|rfl)) ?_|fail|refine sq ?_)))
   (all_goals try exact om)
   (refine Ji.mk (GWP.loopB [] (fun (a:Nat×List (List UInt8))=>a.1≤out.length∧dupB a.2 (out.drop a.1)=dupB [] out∧a.2.length=a.1) (fun a=> [(111,iV a.1),(9,.gs 5 a.2.length 1)]) (fun a=> [(5,.opt (a.2.map Qe))]) 6 (fun a=>out.length - a.1) (0,[]) ⟨Nat.zero_le _,by simp,rfl⟩ ?_);(conv=>whnf);refine And.intro ?_ ?_)
   ·focus (refine ka [] ?_ ?_;all_goals (repeat' (first|exact rz|refine And.intro ?_ ?_|refine Exists.intro _ (And.intro rfl ?_)|refine ro ?_|refine Qu.cons ?_ ?_|(first|exact Y0 _ _|exact Qn.gsN|exact Qn.gsZ|exact Qn.eq rfl (Jl _)|exact Qn.eq (Qz (by omega)) (Qb _)|exact Qn.eq rfl (Qb _)|exact Qu.eq (us:=rowsN _) rfl (Qh _)|exact Qn.eq rfl (Qx (Qh _)))|exact rv)))
   rintro ⟨j,seen⟩ ⟨g1,g2,g3⟩
   simp only at g1 g2 g3 ⊢
   by_cases hjl:j < out.length
   ·clear hk
    obtain ⟨kd,hk⟩:=Ze hjl
    obtain ⟨op,tx,nm,kk⟩:=kd
    have hd:out.drop j= .mk op tx nm kk::out.drop (j+1):=by
     obtain ⟨hi,e⟩:=List.getElem?_eq_some_iff.1 hk
     rw [List.drop_eq_getElem_cons hi,e]
    rw [hd] at g2
    have kin:=fun (H:Heap) (hg:H.get 5=some (.opt (seen.map Qe)))=>inLG_call seen tx (by omega) hg
    cases hcn:seen.contains tx with
    | true =>
     as_aux_lemma =>
     rw [dupB_yes hcn] at g2
     rw [hcn] at kin
     rw [← g2]
     simp only [resP]
     (repeat' (first|with_reducible refine And.intro ?_ ?_|(with_reducible intro hc;(try simp only [zz] at hc);try exact ct)|((conv=>whnf);first|(with_reducible first|refine And.intro ?_ ?_|intro hx|apply Val.via|apply Qi.via)|exact Is.mk rfl rfl|refine sp ?_|refine vx (by (first|exact Qj 0 hi rfl rfl (Qp rfl rfl rfl)|exact Qg hk rfl|exact Qg hk (J3 rfl rfl)|exact Qo rfl rfl|exact Qa rfl rfl rfl|rfl)) ?_|refine dY ?_|(first|refine cl (kin _ rfl) ?_)|refine sq ?_)))
     (all_goals try exact om)
     all_goals exact Qf.mk (fz _ 5)
    | false =>
     as_aux_lemma =>
     rw [dupB_no hcn] at g2
     rw [hcn] at kin
     have hsm:(seen++ [tx]).map Qe=seen.map Qe++ [Qe tx]:=by simp
     (repeat' (first|with_reducible refine And.intro ?_ ?_|(with_reducible intro hc;(try simp only [zz] at hc);try exact ct)|((conv=>whnf);first|(with_reducible first|refine And.intro ?_ ?_|intro hx|apply Val.via|apply Qi.via)|exact Is.mk rfl rfl|refine sp ?_|refine vx (by (first|exact Qj 0 hi rfl rfl (Qp rfl rfl rfl)|exact Qg hk rfl|exact Qg hk (J3 rfl rfl)|exact Qo rfl rfl|exact Qa rfl rfl rfl|rfl)) ?_|refine dY ?_|(first|refine cl (kin _ rfl) ?_|(refine Qs (Qr.grow rfl sty_S (d:= .slice 9) Tryz.underlying69 (by intro k h;cases h) rfl (m:=1) (l:= [Qe tx]) (by rfl) (by rfl) rfl (by simp) (by omega) (by omega) ?_)))|refine sq ?_)))
     (all_goals try exact om)
     focus (refine Qf.mk ⟨(j+1,seen++ [tx]),⟨by simp only;omega,g2,by simp only [List.length_append,List.length_cons,List.length_nil];omega⟩,?_,ka [(8,5)] ?_ ?_⟩;(first|omega|(simp only;omega));all_goals (repeat' (first|exact rz|refine And.intro ?_ ?_|refine Exists.intro _ (And.intro rfl ?_)|refine ro ?_|refine Qu.cons ?_ ?_|(first|exact Qu.eq hsm.symm (Jg Qd _)|(first|exact Y0 _ _|exact Qn.gsN|exact Qn.gsZ|exact Qn.eq rfl (Jl _)|exact Qn.eq (Qz (by omega)) (Qb _)|exact Qn.eq rfl (Qb _)|exact Qu.eq (us:=rowsN _) rfl (Qh _)|exact Qn.eq rfl (Qx (Qh _))))|exact rv)))
   ·obtain rfl:j=out.length:=by omega
    rw [List.drop_length,dupB] at g2
    rw [← g2]
    simp only [resP]
    (repeat' (first|with_reducible refine And.intro ?_ ?_|(with_reducible intro hc;(try simp only [zz] at hc);try exact ct)|((conv=>whnf);first|(with_reducible first|refine And.intro ?_ ?_|intro hx|apply Val.via|apply Qi.via)|exact Is.mk rfl rfl|refine sp ?_|refine vx (by (first|exact Qj 0 hi rfl rfl (Qp rfl rfl rfl)|exact Qg hk rfl|exact Qg hk (J3 rfl rfl)|exact Qo rfl rfl|exact Qa rfl rfl rfl|rfl)) ?_|refine dY ?_|fail|refine sq ?_)))
    (all_goals try exact om)
    all_goals exact Qf.mk (Frz.tp (.cons (frz_two' 0 [] 0 out rfl rfl rfl) (.cons (.of (Qb _)) .nil)))
  ·as_aux_lemma =>
   rw [if_pos he0]
   (repeat' (first|with_reducible refine And.intro ?_ ?_|(with_reducible intro hc;(try simp only [zz] at hc);try exact ct)|((conv=>whnf);first|(with_reducible first|refine And.intro ?_ ?_|intro hx|apply Val.via|apply Qi.via)|exact Is.mk rfl rfl|refine sp ?_|refine vx (by (first|exact Qj 0 hi rfl rfl (Qp rfl rfl rfl)|exact Qg hk rfl|exact Qg hk (J3 rfl rfl)|exact Qo rfl rfl|exact Qa rfl rfl rfl|rfl)) ?_|fail|refine sq ?_)))
   (all_goals try exact om)
   refine Ji.mk (GWP.drawY mixed _ (by kernel_rfl) (by rfl) ?_)
   (repeat' (first|with_reducible refine And.intro ?_ ?_|(with_reducible intro hc;(try simp only [zz] at hc);try exact ct)|((conv=>whnf);first|(with_reducible first|refine And.intro ?_ ?_|intro hx|apply Val.via|apply Qi.via)|exact Is.mk rfl rfl|refine sp ?_|refine vx (by (first|exact Qj 0 hi rfl rfl (Qp rfl rfl rfl)|exact Qg hk rfl|exact Qg hk (J3 rfl rfl)|exact Qo rfl rfl|exact Qa rfl rfl rfl|rfl)) ?_|fail|refine sq ?_)))
   (all_goals try exact om)
   refine Ji.mk (GWP.drawM mixed 127 [5] (fun H=> [H.set 0 (.cells true [iV 0,Qe [],iV 0,.sc (.slice none 0 0)])]) (by kernel_rfl) (by rfl) ?_)
   repeat' (first|with_reducible refine And.intro ?_ ?_|(with_reducible intro hc;(try simp only [zz] at hc);try exact ct)|exact trivial|((conv=>whnf);first|with_reducible refine And.intro ?_ ?_|with_reducible intro hx|exact Is.mk rfl rfl|exact trivial|(with_reducible first|apply Val.via|apply Qi.via)|fail|refine sp ?_|refine vx (by (first|exact Qj 0 hi rfl rfl (Qp rfl rfl rfl)|exact Qg hk rfl|exact Qg hk (J3 rfl rfl)|exact Qo rfl rfl|exact Qa rfl rfl rfl|rfl)) ?_|fail|refine sq ?_))
   (all_goals try exact om)
   all_goals exact Qf.mk (fz _ e)
end Go.Proofs.YtnmjdjldbloefaaGreatDoor
