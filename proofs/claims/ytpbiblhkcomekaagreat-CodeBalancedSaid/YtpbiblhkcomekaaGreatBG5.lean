import Derived.Test.YtpbiblhkcomekaaGreatBE5
import Derived.Test.YtpbiblhkcomekaaGreatBG4
/- lex.sign, at any text. -/
namespace Go.Proofs.YtpbiblhkcomekaaGreat
open Go Go.RowKit
set_option linter.unusedSimpArgs false
set_option linter.unusedVariables false
set_option maxRecDepth 100000
set_option maxHeartbeats 4000000
theorem txR_eq (t:List UInt8):txR (lexT (t.drop 1) [] 1)=sgR3 (textS t):=by
 unfold textS
 cases lexT (t.drop 1) [] 1 with
 | inl p=>rfl
 | inr p=>rfl
theorem marksO (m:List UInt8) (h:m∈marksL):m.length≤2:=by
 have: ∀ m∈marksL,m.length≤2:=by decide
 exact this m h
theorem signA_call (t:List UInt8) (h1:1≤t.length) (ht:t.length≤90000) (H:Heap):Qc Tryz.prog 70 [roB t] H (fun x K=>x=sgR3 (Xl t)∧K=H):=by
 obtain ⟨c,r,rfl⟩: ∃ c r,t=c::r:=by cases t with|nil=>simp at h1|cons c r=>exact ⟨c,r,rfl⟩
 generalize hR:Xl (c::r)=R
 refine Qc.pure (by simp [J4]) (Uf R) ?_
 have hb:(c::r:List UInt8)[0]? = some c:=rfl
 have hcl:c.toNat < 256:=c.toNat_lt
 have hlt:=fun H=>letter_call c H
 have hdg:=fun H=>De c H
 have hnm:=fun H=>name_call (c::r) (by omega) H
 have hnu:=fun H=>number_call (c::r) (by omega) (by omega) H
 have htx:=fun H=>textA_call (c::r) h1 (by omega) H
 rw [txR_eq] at htx
 unfold Xl at hR
 dsimp only at hR
 generalize hT:c::r=t at *
 by_cases hl:D7 c=true
 ·rw [if_pos hl] at hR
  rw [hl] at hlt
  rw [hR] at hnm
  clear hnu htx
  refine Qc.go Tryz.func70 rfl ?_
  (repeat' (first|with_reducible refine And.intro ?_ ?_|(with_reducible intro hc;(try simp only [zz] at hc);try exact ct)|((conv=>whnf);first|(with_reducible first|refine And.intro ?_ ?_|intro hx|apply Val.via|apply Qk.via)|exact Is.mk rfl rfl|refine sp ?_|refine vx (by (first|exact Qa vagg_u8 (Qu hb) (Q4 rfl rfl)|exact Qa rfl rfl rfl|rfl)) ?_|refine dY ?_|(first|refine cl (hlt _) ?_|refine cl (hnm _) ?_)|refine sq ?_)))
  (all_goals try exact om)
  all_goals exact Qg.mk rfl
 rw [if_neg hl] at hR
 have hl:D7 c=false:=by simpa using hl
 rw [hl] at hlt
 by_cases hd:Xt c=true
 ·rw [if_pos hd] at hR
  rw [hd] at hdg
  rw [hR] at hnu
  clear hnm htx
  refine Qc.go Tryz.func70 rfl ?_
  (repeat' (first|with_reducible refine And.intro ?_ ?_|(with_reducible intro hc;(try simp only [zz] at hc);try exact ct)|((conv=>whnf);first|(with_reducible first|refine And.intro ?_ ?_|intro hx|apply Val.via|apply Qk.via)|exact Is.mk rfl rfl|refine sp ?_|refine vx (by (first|exact Qa vagg_u8 (Qu hb) (Q4 rfl rfl)|exact Qa rfl rfl rfl|rfl)) ?_|refine dY ?_|(first|refine cl (hlt _) ?_|refine cl (hdg _) ?_|refine cl (hnu _) ?_)|refine sq ?_)))
  (all_goals try exact om)
  all_goals exact Qg.mk rfl
 rw [if_neg hd] at hR
 have hd:Xt c=false:=by simpa using hd
 rw [hd] at hdg
 by_cases h34:c.toNat=34
 ·rw [if_pos h34] at hR
  rw [hR] at htx
  clear hnm hnu
  refine Qc.go Tryz.func70 rfl ?_
  (repeat' (first|with_reducible refine And.intro ?_ ?_|(with_reducible intro hc;(try simp only [zz] at hc);try exact ct)|((conv=>whnf);first|(with_reducible first|refine And.intro ?_ ?_|intro hx|apply Val.via|apply Qk.via)|exact Is.mk rfl rfl|refine sp ?_|refine vx (by (first|exact Qa vagg_u8 (Qu hb) (Q4 rfl rfl)|exact Qa rfl rfl rfl|rfl)) ?_|refine dY ?_|(first|refine cl (hlt _) ?_|refine cl (hdg _) ?_|refine cl (htx _) ?_)|refine sq ?_)))
  (all_goals try exact om)
  all_goals exact Qg.mk rfl
 rw [if_neg h34] at hR
 clear hnm hnu htx
 refine Qc.go Tryz.func70 rfl ?_
 (repeat' (first|with_reducible refine And.intro ?_ ?_|(with_reducible intro hc;(try simp only [zz] at hc);try exact ct)|((conv=>whnf);first|(with_reducible first|refine And.intro ?_ ?_|intro hx|apply Val.via|apply Qk.via)|exact Is.mk rfl rfl|refine sp ?_|refine vx (by (first|exact Qa vagg_u8 (Qu hb) (Q4 rfl rfl)|exact Qa rfl rfl rfl|rfl)) ?_|refine dY ?_|(first|refine cl (hlt _) ?_|refine cl (hdg _) ?_|(refine Xc.mk (Qc.inl Tryz.func103 rfl ?_)))|refine sq ?_)))
 (all_goals try exact om)
 (refine Ju.mk (GWP.loopB [] (fun (i:Nat)=>i≤18∧Ua t (marksL.drop i)=R) (fun i=> [(39,iV i)]) (fun _=> []) 2 (fun i=>18 - i) 0 ⟨Nat.zero_le _,hR⟩ ?_);(conv=>whnf);refine And.intro ?_ ?_)
 ·focus (refine ka [] ?_ ?_;all_goals (repeat' (first|exact rz|refine And.intro ?_ ?_|refine Exists.intro _ (And.intro rfl ?_)|refine ro ?_|refine Qe.cons ?_ ?_|fail|exact rv)))
 rintro i ⟨g1,g2⟩
 simp only at g1 g2 ⊢
 by_cases hil:i < 18
 ·obtain ⟨m,hm⟩:=Z4 (l:=marksL) (i:=i) (by show i < 18;omega)
  have hml:=marksO m (List.mem_of_getElem? hm)
  have hdm:marksL.drop i=m::marksL.drop (i+1):=by
   obtain ⟨hi,e⟩:=List.getElem?_eq_some_iff.1 hm
   rw [List.drop_eq_getElem_cons hi,e]
  rw [hdm,Ua] at g2
  have hpf:=fun {H:Heap} {b:Nat} (hg:H.get b=some (.cells true (m.map bV)))=>hasPrefix_call t m H (b:=b) (n:=m.length) hg rfl rfl (by omega)
  by_cases hp:m.isPrefixOf t=true
  ·rw [if_pos hp] at g2
   rw [hp] at hpf
   subst g2
   (repeat' (first|with_reducible refine And.intro ?_ ?_|(with_reducible intro hc;(try simp only [zz] at hc);try exact ct)|((conv=>whnf);first|(with_reducible first|refine And.intro ?_ ?_|intro hx|apply Val.via|apply Qk.via)|exact Is.mk rfl rfl|refine sp ?_|refine vx (by (first|exact Qa vagg_str (Wc hm) (Q4 rfl rfl)|exact Qa vagg_str (Wc hm) ((Nat.zero_add _).trans (Q4 rfl rfl))|rfl)) ?_|refine dY ?_|refine cl (hpf rfl) ?_|refine sq ?_)))
   (all_goals try exact om)
   all_goals exact Qg.mk rfl
  ·rw [if_neg hp] at g2
   have hp:m.isPrefixOf t=false:=(Bool.not_eq_true _).mp hp
   rw [hp] at hpf
   (repeat' (first|with_reducible refine And.intro ?_ ?_|(with_reducible intro hc;(try simp only [zz] at hc);try exact ct)|((conv=>whnf);first|(with_reducible first|refine And.intro ?_ ?_|intro hx|apply Val.via|apply Qk.via)|exact Is.mk rfl rfl|refine sp ?_|refine vx (by (first|exact Qa vagg_str (Wc hm) (Q4 rfl rfl)|exact Qa vagg_str (Wc hm) ((Nat.zero_add _).trans (Q4 rfl rfl))|rfl)) ?_|refine dY ?_|refine cl (hpf rfl) ?_|refine sq ?_)))
   (all_goals try exact om)
   focus (refine Qg.mk ⟨i+1,⟨by omega,g2⟩,?_,ka [] ?_ ?_⟩;(first|omega|(simp only;omega));all_goals (repeat' (first|exact rz|refine And.intro ?_ ?_|refine Exists.intro _ (And.intro rfl ?_)|refine ro ?_|refine Qe.cons ?_ ?_|exact Qi.eq (Q9 (by omega)) (Qb _)|exact rv)))
 ·obtain rfl:i=18:=by omega
  have g2:(⟨noSg,0,2⟩:SgR)=R:=g2
  subst g2
  (repeat' (first|with_reducible refine And.intro ?_ ?_|(with_reducible intro hc;(try simp only [zz] at hc);try exact ct)|((conv=>whnf);first|(with_reducible first|refine And.intro ?_ ?_|intro hx|apply Val.via|apply Qk.via)|exact Is.mk rfl rfl|refine sp ?_|refine vx (by rfl) ?_|refine dY ?_|fail|refine sq ?_)))
  (all_goals try exact om)
  all_goals exact Qg.mk rfl
theorem Bk {t:List UInt8} {n z:Nat} {k:Int} (hk:k=(n:Int)) (hn:n≤t.length) (hz:z=1):VV.ro (t.length - k.toNat) (((t.map bV).drop (k.toNat*z)).take ((t.length - k.toNat)*z))=roB (t.drop n):=by
 subst hk hz
 rw [Cf (l:=t) (z:=1) rfl (by omega) (by omega),Int.toNat_natCast,List.take_of_length_le (by simp)]
theorem emptyA_call (t:List UInt8) (ht:t.length≤100000) (H:Heap):Qc Tryz.prog 69 [roB t] H (fun x K=>x=iV (empB t false)∧K=H):=by
 generalize hR:empB t false=R
 refine Qc.pure (by simp [J4]) (Qb _) ?_
 refine Qc.go Tryz.func69 rfl ?_
 (repeat' (first|with_reducible refine And.intro ?_ ?_|(with_reducible intro hc;(try simp only [zz] at hc);try exact ct)|((conv=>whnf);first|(with_reducible first|refine And.intro ?_ ?_|intro hx|apply Val.via|apply Qk.via)|exact Is.mk rfl rfl|refine sp ?_|refine vx (by (first|exact Qa vagg_u8 (Qu hb) (Q4 rfl rfl)|exact Qa rfl rfl rfl|rfl)) ?_|refine dY ?_|fail|refine sq ?_)))
 (all_goals try exact om)
 (refine Ju.mk (GWP.loopB [] (fun (i:Nat)=>i≤t.length∧R=i+empB (t.drop i) false) (fun i=> [(3,iV i)]) (fun _=> []) 0 (fun i=>t.length - i) 0 ⟨Nat.zero_le _,by rw [← hR];simp⟩ ?_);(conv=>whnf);refine And.intro ?_ ?_)
 ·focus (refine ka [] ?_ ?_;all_goals (repeat' (first|exact rz|refine And.intro ?_ ?_|refine Exists.intro _ (And.intro rfl ?_)|refine ro ?_|refine Qe.cons ?_ ?_|fail|exact rv)))
 rintro i ⟨g1,g2⟩
 simp only at g1 g2 ⊢
 by_cases hil:i < t.length
 ·obtain ⟨c,hb⟩: ∃ c,t[i]? = some c:=⟨_,List.getElem?_eq_getElem hil⟩
  have hcl:c.toNat < 256:=c.toNat_lt
  have hd:=Ns hb
  have hbi:=fun H=>bidx_call c H
  have hrn:=fun H=>runnlH_call (t.drop i) (by simp;omega) H
  have hrl:=W8 nlB (t.drop i)
  rw [List.length_drop] at hrl
  by_cases hbl:U5 c=true
  ·have e:0≤blkI c:=by
    unfold blkI
    simp only [U5,Bool.or_eq_true,beq_iff_eq] at hbl
    split
    ·omega
    ·split
     ·omega
     ·split
      ·omega
      ·split <;> omega
   rw [hd,empB,if_pos hbl] at g2
   (repeat' (first|with_reducible refine And.intro ?_ ?_|(with_reducible intro hc;(try simp only [zz] at hc);try exact ct)|((conv=>whnf);first|(with_reducible first|refine And.intro ?_ ?_|intro hx|apply Val.via|apply Qk.via)|exact Is.mk rfl rfl|refine sp ?_|refine vx (by (first|exact Qa vagg_u8 (Qu hb) (Q4 rfl rfl)|exact Qa rfl rfl rfl|rfl)) ?_|refine dY ?_|refine cl (hbi _) ?_|refine sq ?_)))
   (all_goals try exact om)
   focus (refine Qg.mk ⟨i+1,⟨by omega,by omega⟩,?_,ka [] ?_ ?_⟩;(first|omega|(simp only;omega));all_goals (repeat' (first|exact rz|refine And.intro ?_ ?_|refine Exists.intro _ (And.intro rfl ?_)|refine ro ?_|refine Qe.cons ?_ ?_|exact Qi.eq (Q9 (by omega)) (Qb _)|exact rv)))
  ·have e:blkI c= -1:=by
    unfold blkI
    simp only [U5,Bool.or_eq_true,beq_iff_eq] at hbl
    rw [if_neg (by omega),if_neg (by omega),if_neg (by omega),if_neg (by omega)]
   rw [e] at hbi
   by_cases h35:c.toNat=35
   ·have g3:R=(i+Jc nlB (t.drop i))+empB (t.drop (i+Jc nlB (t.drop i))) false:=by
     have h1:=empB_rem (t.drop i)
     rw [List.drop_drop] at h1
     have h2:empB (t.drop i) true=empB (t.drop i) false:=by
      rw [hd]
      simp only [empB]
      rw [if_neg (by omega),if_neg hbl,if_pos h35]
     omega
    have hr1:1≤Jc nlB (t.drop i):=by
     rw [hd,Jc,if_pos (by simp [nlB,h35])]
     omega
    generalize Jc nlB (t.drop i)=k at *
    (repeat' (first|with_reducible refine And.intro ?_ ?_|(with_reducible intro hc;(try simp only [zz] at hc);try exact ct)|((conv=>whnf);first|(with_reducible first|refine And.intro ?_ ?_|intro hx|apply Val.via|apply Qk.via)|exact Is.mk rfl rfl|refine sp ?_|refine vx (by (first|exact Qa vagg_u8 (Qu hb) (Q4 rfl rfl)|exact Qa rfl rfl rfl|rfl)) ?_|refine dY ?_|(first|refine cl (hbi _) ?_|(refine Xc.mk (Qc.arg21 (Bk (n:=i) rfl (by omega) rfl) ((hrn _).mono ?_));rintro _ _ ⟨rfl,rfl⟩))|refine sq ?_)))
    (all_goals try exact om)
    focus (refine Qg.mk ⟨i+k,⟨by omega,g3⟩,?_,ka [] ?_ ?_⟩;(first|omega|(simp only;omega));all_goals (repeat' (first|exact rz|refine And.intro ?_ ?_|refine Exists.intro _ (And.intro rfl ?_)|refine ro ?_|refine Qe.cons ?_ ?_|exact Qi.eq (Q9 (by omega)) (Qb _)|exact rv)))
   ·rw [hd,empB,if_neg hbl,if_neg h35] at g2
    obtain rfl:R=i:=by omega
    (repeat' (first|with_reducible refine And.intro ?_ ?_|(with_reducible intro hc;(try simp only [zz] at hc);try exact ct)|((conv=>whnf);first|(with_reducible first|refine And.intro ?_ ?_|intro hx|apply Val.via|apply Qk.via)|exact Is.mk rfl rfl|refine sp ?_|refine vx (by (first|exact Qa vagg_u8 (Qu hb) (Q4 rfl rfl)|exact Qa rfl rfl rfl|rfl)) ?_|refine dY ?_|refine cl (hbi _) ?_|refine sq ?_)))
    (all_goals try exact om)
    all_goals exact Qg.mk rfl
 ·obtain rfl:i=t.length:=by omega
  rw [List.drop_length,empB] at g2
  obtain rfl:R=t.length:=by omega
  (repeat' (first|with_reducible refine And.intro ?_ ?_|(with_reducible intro hc;(try simp only [zz] at hc);try exact ct)|((conv=>whnf);first|(with_reducible first|refine And.intro ?_ ?_|intro hx|apply Val.via|apply Qk.via)|exact Is.mk rfl rfl|refine sp ?_|refine vx (by (first|exact Qa vagg_u8 (Qu hb) (Q4 rfl rfl)|exact Qa rfl rfl rfl|rfl)) ?_|refine dY ?_|fail|refine sq ?_)))
  (all_goals try exact om)
  all_goals exact Qg.mk rfl
set_option maxHeartbeats 8000000
theorem sty_sgG:B2 Tryz.prog 110 4 40:=⟨⟨_,_,_,rfl,rfl,rfl,rfl,rfl,rfl⟩⟩
def Ya (l:List (Sg×Nat)):List VV:=l.flatMap fun p=>sgV p.1 p.2
theorem Uq (l:List (Sg×Nat)):(Ya l).length=l.length*4:=by
 induction l with
 | nil=>rfl
 | cons a r ih =>
  show (sgV a.1 a.2++Ya r).length=_
  simp only [List.length_append,List.length_cons,ih]
  show 4+_=_
  omega
theorem rowsG_ok (f:VV→Prop) (hf: ∀ x,f (.sc x)) (l:List (Sg×Nat)): ∀ v∈Ya l,f v:=fun v hv=>by
 obtain ⟨p,_,h⟩:=List.mem_flatMap.1 hv
 exact sgV_ok f hf _ _ v h
theorem rowsG_snoc (l:List (Sg×Nat)) (s:Sg) (a:Nat):Ya (l++ [(s,a)])=Ya l++sgV s a:=by
 unfold Ya
 rw [List.flatMap_append,List.flatMap_cons,List.flatMap_nil,List.append_nil]
def sgsR:Sum Nat (List (Sg×Nat))→VV
 | .inl e=> .tp [.ro 0 [],iV e]
 | .inr l=> .tp [.ro l.length (Ya l),iV 0]
theorem frx_G {K:Heap} {b n:Nat} {vs:List VV} {l:List (Sg×Nat)} (hg:K.get b=some (.opt vs)) (hv:vs=Ya l) (hn:n=l.length):Frx K (.gs b n 4) (.ro l.length (Ya l)):=by
 subst hv hn
 exact Frx.gs hg (Uq l) (rowsG_ok Exact Y2 l)
theorem signsG_call (t:List UInt8) (ht:t.length≤50000):Qc Tryz.prog 40 [roB t] ⟨[],0⟩ (fun v K=>Frx K v (sgsR (Zr t))):=by
 generalize hR:Zr t=R
 unfold Zr at hR
 by_cases h4:4096 < t.length
 ·rw [if_pos h4] at hR
  subst hR
  refine Qc.go Tryz.func40 rfl ?_
  (repeat' (first|with_reducible refine And.intro ?_ ?_|(with_reducible intro hc;(try simp only [zz] at hc);try exact ct)|((conv=>whnf);first|(with_reducible first|refine And.intro ?_ ?_|intro hx|apply Val.via|apply Qk.via)|exact Is.mk rfl rfl|refine sp ?_|refine vx (by (first|exact Qa rfl rfl rfl|rfl)) ?_|refine dY ?_|fail|refine sq ?_)))
  (all_goals try exact om)
  all_goals exact Qg.mk (Frx.tp (.cons Frx.nil0 (.cons (Frx.of (Y2 _)) .nil)))
 rw [if_neg h4] at hR
 have he0:=fun H=>emptyA_call t (by omega) H
 have hel0:=Cn t false
 unfold Kx at hR
 generalize empB t false=k0 at *
 have hR:preG [] (lexG (t.length+1) (t.drop k0) k0 0)=R:=by
  rw [← hR]
  cases lexG (t.length+1) (t.drop k0) k0 0 with
  | inl e=>rfl
  | inr l=>rfl
 refine Qc.go Tryz.func40 rfl ?_
 (repeat' (first|with_reducible refine And.intro ?_ ?_|(with_reducible intro hc;(try simp only [zz] at hc);try exact ct)|((conv=>whnf);first|(with_reducible first|refine And.intro ?_ ?_|intro hx|apply Val.via|apply Qk.via)|exact Is.mk rfl rfl|refine sp ?_|refine vx (by (first|exact Qa rfl rfl rfl|rfl)) ?_|refine dY ?_|refine cl (he0 _) ?_|refine sq ?_)))
 (all_goals try exact om)
 (refine Ju.mk (GWP.loopB [] (fun (s:List (Sg×Nat)×Nat×Nat)=>s.2.1≤t.length∧t.length - s.2.1 < s.2.2∧s.1.length≤1024∧preG s.1 (lexG s.2.2 (t.drop s.2.1) s.2.1 s.1.length)=R) (fun s=> [(4,.gs 0 s.1.length 4),(5,iV s.2.1)]) (fun s=> [(0,.opt (Ya s.1))]) 1 (fun s=>t.length - s.2.1) ([],k0,t.length+1) ⟨hel0,by simp only;omega,Nat.zero_le _,hR⟩ ?_);(conv=>whnf);refine And.intro ?_ ?_)
 ·focus (refine ka [] ?_ ?_;all_goals (repeat' (first|exact rz|refine And.intro ?_ ?_|refine Exists.intro _ (And.intro rfl ?_)|refine ro ?_|refine Qe.cons ?_ ?_|fail|exact rv)))
 rintro ⟨l,a,f⟩ ⟨g1,g2,g3,g4⟩
 simp only at g1 g2 g3 g4 ⊢
 obtain ⟨f,rfl⟩: ∃ f',f=f'+1:=⟨f - 1,by omega⟩
 rw [lexG] at g4
 by_cases hta:a=t.length
 ·rw [if_pos (by rw [hta];exact List.drop_length)] at g4
  have g4:Sum.inr (l++ [(noSg,a)])=R:=g4
  subst g4
  (repeat' (first|with_reducible refine And.intro ?_ ?_|(with_reducible intro hc;(try simp only [zz] at hc);try exact ct)|((conv=>whnf);first|(with_reducible first|refine And.intro ?_ ?_|intro hx|apply Val.via|apply Qk.via)|exact Is.mk rfl rfl|refine sp ?_|refine vx (by (first|exact Qa rfl rfl rfl|rfl)) ?_|refine dY ?_|(refine Qw (Qr.grow rfl sty_sgG (d:= .slice 159) Tryz.underlying110 (by intro k h;cases h) rfl (m:=1) (l:=sgV noSg a) (by rfl) (by rfl) rfl (Uq l) (by omega) (by omega) ?_))|refine sq ?_)))
  (all_goals try exact om)
  all_goals exact Qg.mk (Frx.tp (.cons (frx_G (l:=l++ [(noSg,a)]) rfl (rowsG_snoc l noSg a).symm (by simp)) (.cons (Frx.of (Y2 _)) .nil)))
 have hne:t.drop a≠ []:=fun e=>by
  have:=congrArg List.length e
  simp at this
  omega
 rw [if_neg hne] at g4
 have hsg:=fun H=>signA_call (t.drop a) (by rw [List.length_drop];omega) (by rw [List.length_drop];omega) H
 have hsn:=lexS_n (t.drop a)
 rw [List.length_drop] at hsn
 rw [List.drop_drop] at g4
 generalize hS:Xl (t.drop a)=S at *
 obtain ⟨s,n,e⟩:=S
 dsimp only at g4 hsn
 simp only [sgR3] at hsg
 by_cases hee:e=0
 ·subst hee
  have hsn:=hsn rfl
  rw [if_neg (by simp)] at g4
  by_cases h10:1024≤l.length
  ·rw [if_pos h10] at g4
   have g4:Sum.inl 3=R:=g4
   subst g4
   (repeat' (first|with_reducible refine And.intro ?_ ?_|(with_reducible intro hc;(try simp only [zz] at hc);try exact ct)|((conv=>whnf);first|(with_reducible first|refine And.intro ?_ ?_|intro hx|apply Val.via|apply Qk.via)|exact Is.mk rfl rfl|refine sp ?_|refine vx (by (first|exact Qa rfl rfl rfl|rfl)) ?_|refine dY ?_|(refine Xc.mk (Qc.arg1 (Bk (n:=a) rfl (by omega) rfl) ((hsg _).mono ?_));rintro _ _ ⟨rfl,rfl⟩)|refine sq ?_)))
   (all_goals try exact om)
   all_goals exact Qg.mk (Frx.tp (.cons Frx.nil0 (.cons (Frx.of (Y2 _)) .nil)))
  ·rw [if_neg h10,preG_step] at g4
   have hem:=fun H=>emptyA_call (t.drop (a+n)) (by rw [List.length_drop];omega) H
   have hel:=Cn (t.drop (a+n)) false
   rw [List.length_drop] at hel
   unfold Kx at g4
   rw [List.drop_drop] at g4
   generalize empB (t.drop (a+n)) false=k at *
   (repeat' (first|with_reducible refine And.intro ?_ ?_|(with_reducible intro hc;(try simp only [zz] at hc);try exact ct)|((conv=>whnf);first|(with_reducible first|refine And.intro ?_ ?_|intro hx|apply Val.via|apply Qk.via)|exact Is.mk rfl rfl|refine sp ?_|refine vx (by (first|exact Qa rfl rfl rfl|rfl)) ?_|refine dY ?_|(first|(refine Xc.mk (Qc.arg1 (Bk (n:=a) rfl (by omega) rfl) ((hsg _).mono ?_));rintro _ _ ⟨rfl,rfl⟩)|(refine Xc.mk (Qc.arg1 (Bk (n:=a+n) (by omega) (by omega) rfl) ((hem _).mono ?_));rintro _ _ ⟨rfl,rfl⟩)|(refine Qw (Qr.grow rfl sty_sgG (d:= .slice 159) Tryz.underlying110 (by intro k h;cases h) rfl (m:=1) (l:=sgV s a) (by rfl) (by rfl) rfl (Uq l) (by omega) (by omega) ?_)))|refine sq ?_)))
   (all_goals try exact om)
   focus (refine Qg.mk ⟨(l++ [(s,a)],a+n+k,f),⟨by simp only;omega,by simp only;omega,by simp only [List.length_append,List.length_cons,List.length_nil];omega,by simp only [List.length_append,List.length_cons,List.length_nil];exact g4⟩,?_,ka [(3,0)] ?_ ?_⟩;(first|omega|(simp only;omega));all_goals (repeat' (first|exact rz|refine And.intro ?_ ?_|refine Exists.intro _ (And.intro rfl ?_)|refine ro ?_|refine Qe.cons ?_ ?_|(first|exact Qe.eq (rowsG_snoc l s a).symm (rowsG_ok Qd Qb _)|exact Qi.eq (Q9 (by omega)) (Qb _))|exact rv)))
 ·rw [if_pos hee] at g4
  have g4:Sum.inl e=R:=g4
  subst g4
  obtain ⟨e',rfl⟩: ∃ e',e=e'+1:=⟨e - 1,by omega⟩
  (repeat' (first|with_reducible refine And.intro ?_ ?_|(with_reducible intro hc;(try simp only [zz] at hc);try exact ct)|((conv=>whnf);first|(with_reducible first|refine And.intro ?_ ?_|intro hx|apply Val.via|apply Qk.via)|exact Is.mk rfl rfl|refine sp ?_|refine vx (by (first|exact Qa rfl rfl rfl|rfl)) ?_|refine dY ?_|(refine Xc.mk (Qc.arg1 (Bk (n:=a) rfl (by omega) rfl) ((hsg _).mono ?_));rintro _ _ ⟨rfl,rfl⟩)|refine sq ?_)))
  (all_goals try exact om)
  all_goals exact Qg.mk (Frx.tp (.cons Frx.nil0 (.cons (Frx.of (Y2 _)) .nil)))
end Go.Proofs.YtpbiblhkcomekaaGreat
