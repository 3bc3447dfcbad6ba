import Derived.Test.YtnmjdjldbloefaaGreatDoorPE5
import Derived.Test.YtnmjdjldbloefaaGreatDoorPD2
import Derived.Test.YtnmjdjldbloefaaGreatDoorPU6
import Derived.Test.YtnmjdjldbloefaaGreatDoorPG2
import Derived.Lib.ItoaNum
/- The document's text of a tree, walked: rows, inner, Digits, tight. -/
namespace Go.Proofs.YtnmjdjldbloefaaGreatDoor
open Go Go.RowKit
set_option linter.unusedSimpArgs false
set_option linter.unusedVariables false
set_option maxRecDepth 100000
set_option maxHeartbeats 8000000
theorem X8: ∀ {a b:List Sg},a≠ []→b≠ []→joinG (a++b)=joinG a++32::joinG b
 | [],_,h,_=>absurd rfl h
 | [g],[],_,h=>absurd rfl h
 | [g],h::r,_,_=>rfl
 | g::k::r,b,_,hb=>by
  have ih:=X8 (a:=k::r) (b:=b) (by simp) hb
  show joinG (g::k::(r++b))=_
  rw [joinG,joinG]
  rw [show k::(r++b)=(k::r)++b from rfl,ih]
  simp
theorem Js {g:Sg} {b:List Sg} (hb:b≠ []):joinG (g::b)=Wh g++32::joinG b:=by
 cases b with
 | nil=>exact absurd rfl hb
 | cons h r=>rfl
def PT (n:Nd):List UInt8:=joinG (sgN n)
def Ky (sep:List UInt8):List (List UInt8)→List UInt8
 | []=> []
 | [x]=>x
 | x::y::r=>x++(sep++Ky sep (y::r))
theorem rowJ_snoc (sep y:List UInt8): ∀ {L:List (List UInt8)},L≠ []→Ky sep (L++ [y])=Ky sep L++(sep++y)
 | [],h=>absurd rfl h
 | [x],_=>rfl
 | x::z::r,_=>by
  have ih:=rowJ_snoc sep y (L:=z::r) (by simp)
  show Ky sep (x::z::(r++ [y]))=_
  rw [Ky,Ky,show z::(r++ [y])=(z::r)++ [y] from rfl,ih]
  simp
theorem Cv {sep:List UInt8} (hs:sep.length≤3): ∀ {L:List (List UInt8)},(∀ x∈L,x.length≤1000000000)→(Ky sep L).length≤1000000003*L.length
 | [],_=>by simp [Ky]
 | [x],h=>by
  have:=h x (by simp)
  simp [Ky]
  omega
 | x::y::r,h=>by
  have h1:=h x (by simp)
  have ih:=Cv hs (L:=y::r) fun z hz=>h z (by simp only [List.mem_cons] at hz ⊢;exact .inr hz)
  rw [Ky,List.length_append,List.length_append,List.length_cons (a:=x)]
  omega
theorem join_flat {ks:List Nd} (h: ∀ k∈ks,sgN k≠ []):joinG (ks.map sgN).flatten=Ky [32] (ks.map PT):=by
 induction ks with
 | nil=>rfl
 | cons k r ih =>
  have ih:=ih fun k hk=>h k (by simp [hk])
  cases r with
  | nil=>simp [Ky,PT]
  | cons k2 r =>
   rw [List.map_cons,List.flatten_cons,X8 (h k (by simp)) (by simp [h k2 (by simp)]),ih]
   rfl
theorem rowG_ne {ks:List Nd} (h: ∀ k∈ks,sgN k≠ []) (h0:ks≠ []):rowG (ks.map sgN)≠ []:=by
 cases ks with
 | nil=>exact absurd rfl h0
 | cons k r =>
  have:=h k (by simp)
  cases r with
  | nil=>exact this
  | cons k2 r=>simp [rowG]
theorem join_row {ks:List Nd} (h: ∀ k∈ks,sgN k≠ []):joinG (rowG (ks.map sgN))=Ky [32,44,32] (ks.map PT):=by
 induction ks with
 | nil=>rfl
 | cons k r ih =>
  have ih:=ih fun k hk=>h k (by simp [hk])
  cases r with
  | nil=>rfl
  | cons k2 r =>
   have hne:=rowG_ne (ks:=k2::r) (fun k hk=>h k (by simp only [List.mem_cons] at hk ⊢;exact .inr hk)) (by simp)
   simp only [List.map_cons,rowG] at ih hne ⊢
   rw [X8 (h k (by simp)) (by simp),Js hne,ih]
   rfl
structure Wn (n:Nd):Prop where
 ne:sgN n≠ []
 len:(PT n).length≤1000000000
 call: ∀ H,Qc Tryz.prog 12 [nV n] H (fun v K=>v=Qe (PT n)∧K=H)
theorem Yf {A B:ByteArray} {a b:List UInt8} (hA:A=⟨a.toArray⟩) (hB:B=⟨b.toArray⟩):A++B=⟨(a++b).toArray⟩:=by
 subst hA hB
 exact Bi a b
theorem Cj {A:ByteArray} {a m:List UInt8} (h:A=⟨a.toArray⟩) (e:a=m):VV.sc (.string A)=Qe m:=by
 subst h e
 rfl
theorem prRows (l:List Nd) (hl:l.length≤20000) (sep:List UInt8) (hsep:sep.length≤3) (hk: ∀ k∈l,Wn k) (H:Heap):Qc Tryz.prog 27 [.ro l.length (rowsN l),Qe sep] H (fun v K=>v=Qe (Ky sep (l.map PT))∧K=H):=by
 refine Qc.pure (by intro v hv;simp only [List.mem_cons,List.not_mem_nil,or_false] at hv;rcases hv with rfl|rfl;exact Qx (Qh l);exact Qd _) (Qd _) ?_
 generalize hR:Ky sep (l.map PT)=R
 refine Qc.go Tryz.func27 rfl ?_
 (repeat' (first|with_reducible refine And.intro ?_ ?_|(with_reducible intro hc;(try simp only [zz] at hc);try exact ct)|((conv=>whnf);first|(with_reducible first|refine And.intro ?_ ?_|intro hx|apply Val.via|apply Qi.via)|exact Is.mk rfl rfl|refine sp ?_|refine vx (by rfl) ?_|refine dY ?_|fail|refine sq ?_)))
 (all_goals (first|omega|contradiction|(exfalso;have hmx:IntKind.i64.max=9223372036854775807:=rfl;rw [hmx] at hx;simp [ByteArray.size_append,ByteArray.size] at hx;omega)|skip))
 (refine Ji.mk (GWP.loopB [] (fun (j:Nat)=>j≤l.length) (fun j=> [(5,Qe (Ky sep ((l.take j).map PT))),(10,iV j)]) (fun _=> []) 0 (fun j=>l.length - j) 0 (Nat.zero_le _) ?_);(conv=>whnf);refine And.intro ?_ ?_)
 ·focus (refine ka [] ?_ ?_;all_goals (repeat' (first|exact rz|refine And.intro ?_ ?_|refine Exists.intro _ (And.intro rfl ?_)|refine ro ?_|refine Qu.cons ?_ ?_|exact Qn.of (Qb _)|exact rv)))
 rintro j hj
 simp only at hj ⊢
 by_cases hjl:j < l.length
 ·obtain ⟨kd,hk1⟩:=Ze hjl
  have hp:=hk kd (List.mem_of_getElem? hk1)
  have hpc:=hp.call
  have hpl:=hp.len
  have htk:(l.take (j+1)).map PT=(l.take j).map PT++ [PT kd]:=by rw [List.take_add_one,hk1];simp
  have hb:=Cv hsep (L:=(l.take j).map PT) (fun x hx=>by
   obtain ⟨k,hk2,rfl⟩:=List.mem_map.1 hx
   exact (hk k (List.mem_of_mem_take hk2)).len)
  rw [List.length_map,List.length_take,Nat.min_eq_left hj] at hb
  have hk:=hk1
  by_cases hj0:j=0
  ·subst hj0
   have ht:Ky sep ((l.take (0+1)).map PT)=PT kd:=by rw [htk];rfl
   have h0:Ky sep ((l.take 0).map PT)= []:=rfl
   rw [h0]
   generalize PT kd=p at *
   obtain ⟨op,tx,nm,kk⟩:=kd
   simp only [nV,cellsN] at hpc
   (repeat' (first|with_reducible refine And.intro ?_ ?_|(with_reducible intro hc;(try simp only [zz] at hc);try exact ct)|((conv=>whnf);first|(with_reducible first|refine And.intro ?_ ?_|intro hx|apply Val.via|apply Qi.via)|exact Is.mk rfl rfl|refine sp ?_|refine vx (by (first|exact Qg hk (J3 rfl rfl)|exact Qo rfl rfl|exact Qa rfl rfl rfl|rfl)) ?_|refine dY ?_|refine cl (hpc _) ?_|refine sq ?_)))
   (all_goals (first|omega|contradiction|(exfalso;have hmx:IntKind.i64.max=9223372036854775807:=rfl;rw [hmx] at hx;simp [ByteArray.size_append,ByteArray.size] at hx;omega)|skip))
   focus (refine Qf.mk ⟨0+1,(by omega),?_,ka [] ?_ ?_⟩;(first|omega|(simp only;omega));all_goals (repeat' (first|exact rz|refine And.intro ?_ ?_|refine Exists.intro _ (And.intro rfl ?_)|refine ro ?_|refine Qu.cons ?_ ?_|(first|exact Qn.eq (Cj (Yf rfl rfl) ht.symm) (Qd _)|exact Qn.eq (Qz (by omega)) (Qb _))|exact rv)))
  ·have hne:(l.take j).map PT≠ []:=by
    intro h
    have:=congrArg List.length h
    rw [List.length_map,List.length_take,Nat.min_eq_left hj] at this
    simp at this
    omega
   have ht:(Ky sep ((l.take j).map PT)++sep)++PT kd=Ky sep ((l.take (j+1)).map PT):=by rw [htk,rowJ_snoc sep _ hne,List.append_assoc]
   generalize Ky sep ((l.take j).map PT)=out at *
   generalize PT kd=p at *
   obtain ⟨op,tx,nm,kk⟩:=kd
   simp only [nV,cellsN] at hpc
   (repeat' (first|with_reducible refine And.intro ?_ ?_|(with_reducible intro hc;(try simp only [zz] at hc);try exact ct)|((conv=>whnf);first|(with_reducible first|refine And.intro ?_ ?_|intro hx|apply Val.via|apply Qi.via)|exact Is.mk rfl rfl|refine sp ?_|refine vx (by (first|exact Qg hk (J3 rfl rfl)|exact Qo rfl rfl|exact Qa rfl rfl rfl|rfl)) ?_|refine dY ?_|refine cl (hpc _) ?_|refine sq ?_)))
   (all_goals (first|omega|contradiction|(exfalso;have hmx:IntKind.i64.max=9223372036854775807:=rfl;rw [hmx] at hx;simp [ByteArray.size_append,ByteArray.size] at hx;omega)|skip))
   focus (refine Qf.mk ⟨j+1,(by omega),?_,ka [] ?_ ?_⟩;(first|omega|(simp only;omega));all_goals (repeat' (first|exact rz|refine And.intro ?_ ?_|refine Exists.intro _ (And.intro rfl ?_)|refine ro ?_|refine Qu.cons ?_ ?_|(first|exact Qn.eq (Cj (Yf (Yf rfl rfl) rfl) ht) (Qd _)|exact Qn.eq (Qz (by omega)) (Qb _))|exact rv)))
 ·obtain rfl:j=l.length:=by omega
  rw [List.take_length,hR]
  (repeat' (first|with_reducible refine And.intro ?_ ?_|(with_reducible intro hc;(try simp only [zz] at hc);try exact ct)|((conv=>whnf);first|(with_reducible first|refine And.intro ?_ ?_|intro hx|apply Val.via|apply Qi.via)|exact Is.mk rfl rfl|refine sp ?_|refine vx (by rfl) ?_|refine dY ?_|fail|refine sq ?_)))
  (all_goals (first|omega|contradiction|(exfalso;have hmx:IntKind.i64.max=9223372036854775807:=rfl;rw [hmx] at hx;simp [ByteArray.size_append,ByteArray.size] at hx;omega)|skip))
  all_goals exact Qf.mk rfl
theorem prTight (n:Nd) (ho:OpOk n) (H:Heap):Qc Tryz.prog 55 [nV n] H (fun v K=>v=iV (rankN n)∧K=H):=by
 refine Qc.pure (by simp [Qk]) (Qb _) ?_
 obtain ⟨op,tx,nm,kk⟩:=n
 rw [nV,cellsN]
 by_cases h13:op=13
 ·subst h13
  have hx:tx∈opL (lvO tx):=ho tx nm kk rfl
  have hl:lvO tx≤4:=by
   unfold lvO
   repeat' split
   all_goals omega
  have hr:rkN tx=lvO tx:=(Ni tx (lvO tx) (by omega)).1 (by simpa using hx)
  have kr:=fun H=>Eb tx H
  have hR:rankN (.mk 13 tx nm kk)=lvO tx:=rfl
  rw [hr] at kr
  rw [hR]
  unfold rkI at kr
  rw [if_pos (by omega)] at kr
  generalize lvO tx=q at *
  refine Qc.go Tryz.func55 rfl ?_
  (repeat' (first|with_reducible refine And.intro ?_ ?_|(with_reducible intro hc;(try simp only [zz] at hc);try exact ct)|((conv=>whnf);first|(with_reducible first|refine And.intro ?_ ?_|intro hx|apply Val.via|apply Qi.via)|exact Is.mk rfl rfl|refine sp ?_|refine vx (by (first|exact Qg hk (J3 rfl rfl)|exact Qo rfl rfl|exact Qa rfl rfl rfl|rfl)) ?_|refine dY ?_|refine cl (kr _) ?_|refine sq ?_)))
  (all_goals (first|omega|contradiction|(exfalso;have hmx:IntKind.i64.max=9223372036854775807:=rfl;rw [hmx] at hx;simp [ByteArray.size_append,ByteArray.size] at hx;omega)|skip))
  all_goals exact Qf.mk rfl
 ·by_cases h14:op=14
  ·subst h14
   refine Qc.go Tryz.func55 rfl ?_
   (repeat' (first|with_reducible refine And.intro ?_ ?_|(with_reducible intro hc;(try simp only [zz] at hc);try exact ct)|((conv=>whnf);first|(with_reducible first|refine And.intro ?_ ?_|intro hx|apply Val.via|apply Qi.via)|exact Is.mk rfl rfl|refine sp ?_|refine vx (by (first|exact Qg hk (J3 rfl rfl)|exact Qo rfl rfl|exact Qa rfl rfl rfl|rfl)) ?_|refine dY ?_|fail|refine sq ?_)))
   (all_goals (first|omega|contradiction|(exfalso;have hmx:IntKind.i64.max=9223372036854775807:=rfl;rw [hmx] at hx;simp [ByteArray.size_append,ByteArray.size] at hx;omega)|skip))
   all_goals exact Qf.mk rfl
  ·have hR:rankN (.mk op tx nm kk)=6:=by unfold rankN;simp only;rw [if_neg h13,if_neg h14]
   rw [hR]
   refine Qc.go Tryz.func55 rfl ?_
   (repeat' (first|with_reducible refine And.intro ?_ ?_|(with_reducible intro hc;(try simp only [zz] at hc);try exact ct)|((conv=>whnf);first|(with_reducible first|refine And.intro ?_ ?_|intro hx|apply Val.via|apply Qi.via)|exact Is.mk rfl rfl|refine sp ?_|refine vx (by (first|exact Qg hk (J3 rfl rfl)|exact Qo rfl rfl|exact Qa rfl rfl rfl|rfl)) ?_|refine dY ?_|fail|refine sq ?_)))
   (all_goals (first|omega|contradiction|(exfalso;have hmx:IntKind.i64.max=9223372036854775807:=rfl;rw [hmx] at hx;simp [ByteArray.size_append,ByteArray.size] at hx;omega)|skip))
   all_goals exact Qf.mk rfl
theorem brG_join {L:List Sg} (h:L≠ []):joinG (brG true L)= [40,32]++joinG L++ [32,41]:=by
 unfold brG
 rw [if_pos rfl,Js (by simp),X8 h (by simp)]
 simp [Wh,mkG,joinG]
theorem prInner (n:Nd) (ho:OpOk n) (hp:Wn n) (r:Nat) (hr:r≤100) (H:Heap):Qc Tryz.prog 30 [nV n,iV r] H (fun v K=>v=Qe (joinG (sgI r n))∧K=H):=by
 refine Qc.pure (by simp [Qk,iV,Qb]) (Qd _) ?_
 have kt:=fun H=>prTight n ho H
 have kp:=hp.call
 have hl:=hp.len
 have hrk:=rank_le n
 unfold sgI
 by_cases hc:rankN n < r
 ·rw [show decide (rankN n < r)=true by simp [hc],brG_join hp.ne]
  have hPT:joinG (sgN n)=PT n:=rfl
  rw [hPT]
  generalize PT n=p at *
  generalize rankN n=q at *
  obtain ⟨op,tx,nm,kk⟩:=n
  rw [nV,cellsN]
  simp only [nV,cellsN] at kp kt
  refine Qc.go Tryz.func30 rfl ?_
  (repeat' (first|with_reducible refine And.intro ?_ ?_|(with_reducible intro hc;(try simp only [zz] at hc);try exact ct)|((conv=>whnf);first|(with_reducible first|refine And.intro ?_ ?_|intro hx|apply Val.via|apply Qi.via)|exact Is.mk rfl rfl|refine sp ?_|refine vx (by (first|exact Qg hk (J3 rfl rfl)|exact Qo rfl rfl|exact Qa rfl rfl rfl|rfl)) ?_|refine dY ?_|(first|refine cl (kt _) ?_|refine cl (kp _) ?_)|refine sq ?_)))
  (all_goals (first|omega|contradiction|(exfalso;have hmx:IntKind.i64.max=9223372036854775807:=rfl;rw [hmx] at hx;simp [ByteArray.size_append,ByteArray.size] at hx;omega)|skip))
  all_goals exact Qf.mk (Cj (Yf (Yf rfl rfl) rfl) rfl)
 ·rw [show decide (rankN n < r)=false by simp [hc]]
  have hPT:joinG (brG false (sgN n))=PT n:=rfl
  rw [hPT]
  generalize PT n=p at *
  generalize rankN n=q at *
  obtain ⟨op,tx,nm,kk⟩:=n
  rw [nV,cellsN]
  simp only [nV,cellsN] at kp kt
  refine Qc.go Tryz.func30 rfl ?_
  (repeat' (first|with_reducible refine And.intro ?_ ?_|(with_reducible intro hc;(try simp only [zz] at hc);try exact ct)|((conv=>whnf);first|(with_reducible first|refine And.intro ?_ ?_|intro hx|apply Val.via|apply Qi.via)|exact Is.mk rfl rfl|refine sp ?_|refine vx (by (first|exact Qg hk (J3 rfl rfl)|exact Qo rfl rfl|exact Qa rfl rfl rfl|rfl)) ?_|refine dY ?_|(first|refine cl (kt _) ?_|refine cl (kp _) ?_)|refine sq ?_)))
  (all_goals (first|omega|contradiction|(exfalso;have hmx:IntKind.i64.max=9223372036854775807:=rfl;rw [hmx] at hx;simp [ByteArray.size_append,ByteArray.size] at hx;omega)|skip))
  all_goals exact Qf.mk rfl
theorem nDig_le (u:Nat) (h:u≤4294967296):Lib.nDigits u≤20:=by
 by_cases hc:Lib.nDigits u≤20
 ·exact hc
 ·exfalso
  have key: ∀ (k u:Nat),u < 10 ^ (k+1)→Lib.nDigits u≤k+1:=by
   intro k
   induction k with
   | zero=>intro u hu;rw [Lib.nDigits_small (by simpa using hu)];omega
   | succ k ih =>
    intro u hu
    by_cases h10:u < 10
    ·rw [Lib.nDigits_small h10];omega
    ·rw [Lib.nDigits_big h10]
     have:=ih (u / 10) (by rw [Nat.pow_succ] at hu;omega)
     omega
  exact hc (Nat.le_trans (key 10 u (by omega)) (by decide))
theorem dig_at: ∀ v,v < 10→([48,49,50,51,52,53,54,55,56,57]:List UInt8)[v]? = some (UInt8.ofNat (48+v)):=by decide
theorem prDigits: ∀ (N v:Nat),v≤N→v≤4294967296→ ∀ H,Qc Tryz.prog 28 [iV v] H (fun x K=>x=Qe (Lib.decDigits v)∧K=H)
 | N,v,hN,hv,H=>by
  refine Qc.pure (by simp [iV,Qb]) (Qd _) ?_
  by_cases h:v < 10
  ·rw [Lib.decDigits_one h]
   have hd:=dig_at v h
   refine Qc.go Tryz.func28 rfl ?_
   (repeat' (first|with_reducible refine And.intro ?_ ?_|(with_reducible intro hc;(try simp only [zz] at hc);try exact ct)|((conv=>whnf);first|(with_reducible first|refine And.intro ?_ ?_|intro hx|apply Val.via|apply Qi.via)|exact Is.mk rfl rfl|refine sp ?_|refine vx (by rfl) ?_|refine dY ?_|fail|refine sq ?_)))
   all_goals (first|omega|contradiction|(show (v:Int)+1≤10;omega)|skip)
   all_goals exact Qf.mk (Cj (B5 (t:= [48,49,50,51,52,53,54,55,56,57]) hd) rfl)
  ·match N,hN with
   | 0,hN=>omega
   | N+1,hN =>
   have k1:=fun H=>prDigits N (v / 10) (by omega) (by omega) H
   have k2:=fun H=>prDigits N (v % 10) (by omega) (by omega) H
   have e1:(iV ((v / 10:Nat):Int))= .sc (.int .i64 ((v:Int) / 10)):=by
    show VV.sc (.int .i64 ((v / 10:Nat):Int))=_
    rw [Int.natCast_ediv]
    rfl
   have e2:(iV ((v % 10:Nat):Int))= .sc (.int .i64 ((v:Int) % 10)):=by
    show VV.sc (.int .i64 ((v % 10:Nat):Int))=_
    rw [Int.natCast_emod]
    rfl
   rw [e1] at k1
   rw [e2] at k2
   have hR:Lib.decDigits (v / 10)++Lib.decDigits (v % 10)=Lib.decDigits v:=by
    rw [Lib.decDigits_one (show v % 10 < 10 by omega)]
    conv=>rhs;rw [Lib.decDigits]
    rw [dif_neg h]
   have l1:(Lib.decDigits (v / 10)).length≤20:=by
    rw [Lib.decDigits_length]
    exact nDig_le _ (by omega)
   have l2:(Lib.decDigits (v % 10)).length≤20:=by
    rw [Lib.decDigits_length]
    exact nDig_le _ (by omega)
   rw [← hR]
   clear hR
   generalize Lib.decDigits (v / 10)=a at *
   generalize Lib.decDigits (v % 10)=b at *
   refine Qc.go Tryz.func28 rfl ?_
   (repeat' (first|with_reducible refine And.intro ?_ ?_|(with_reducible intro hc;(try simp only [zz] at hc);try exact ct)|((conv=>whnf);first|(with_reducible first|refine And.intro ?_ ?_|intro hx|apply Val.via|apply Qi.via)|exact Is.mk rfl rfl|refine sp ?_|refine vx (by rfl) ?_|refine dY ?_|(first|refine cl (k1 _) ?_|refine cl (k2 _) ?_)|refine sq ?_)))
   (all_goals (first|omega|contradiction|(exfalso;have hmx:IntKind.i64.max=9223372036854775807:=rfl;rw [hmx] at hx;simp [ByteArray.size_append,ByteArray.size] at hx;omega)|skip))
   all_goals exact Qf.mk (Cj (Yf rfl rfl) rfl)
def PrC (n:Nd):Prop:= ∀ H,Qc Tryz.prog 12 [nV n] H (fun v K=>v=Qe (PT n)∧K=H)
theorem pr53 (k b c:Nd) (hk:Wn k) (hb:Wn b) (hc:Wn c):PrC (.mk 5 [] 0 [k,b,c]):=fun H=>by
 have hp:PT (.mk 5 [] 0 [k,b,c])=(((([105,102,32]++PT k)++ [32])++PT b)++ [32,101,108,115,101,32])++PT c:=by
  unfold PT
  rw [Q2]
  show joinG (wdG [105,102]::(sgN k++(sgN b++(wdG [101,108,115,101]::sgN c))))=_
  rw [Js (by simp [hk.ne]),X8 hk.ne (by simp),X8 hb.ne (by simp),Js hc.ne]
  simp [Wh,wdG]
 rw [hp]
 have k1:=hk.call
 have l1:=hk.len
 have k2:=hb.call
 have l2:=hb.len
 have k3:=hc.call
 have l3:=hc.len
 generalize PT k=p at *
 generalize PT b=q at *
 generalize PT c=u at *
 clear hp hk hb hc
 obtain ⟨op,tx,nm,k4⟩:=k
 obtain ⟨op2,tx2,nm2,k5⟩:=b
 obtain ⟨op3,tx3,nm3,k6⟩:=c
 simp only [nV,cellsN] at k1 k2 k3
 refine Qc.pure (by simp [Qk]) (Qd _) ?_
 rw [nV,cellsN]
 have hv0:=Qg (l:= [.mk op tx nm k4,.mk op2 tx2 nm2 k5,.mk op3 tx3 nm3 k6]) (i:=0) (o:=0) rfl rfl
 have hv1:=Qg (l:= [.mk op tx nm k4,.mk op2 tx2 nm2 k5,.mk op3 tx3 nm3 k6]) (i:=1) (o:=4) rfl rfl
 have hv2:=Qg (l:= [.mk op tx nm k4,.mk op2 tx2 nm2 k5,.mk op3 tx3 nm3 k6]) (i:=2) (o:=8) rfl rfl
 have hlen:([.mk op tx nm k4,.mk op2 tx2 nm2 k5,.mk op3 tx3 nm3 k6]:List Nd).length=3:=rfl
 rw [hlen]
 clear hlen
 generalize rowsN [.mk op tx nm k4,.mk op2 tx2 nm2 k5,.mk op3 tx3 nm3 k6]=rs at *
 refine Qc.go Tryz.func12 rfl ?_
 (repeat' (first|with_reducible refine And.intro ?_ ?_|(with_reducible intro hc;(try simp only [zz] at hc);try exact ct)|((conv=>whnf);first|(with_reducible first|refine And.intro ?_ ?_|intro hx|apply Val.via|apply Qi.via)|exact Is.mk rfl rfl|refine sp ?_|refine vx (by (first|exact hv0|exact hv1|exact hv2|exact Qo rfl rfl|exact Qa rfl rfl rfl|rfl)) ?_|refine dY ?_|(first|refine cl (k1 _) ?_|refine cl (k2 _) ?_|refine cl (k3 _) ?_)|refine sq ?_)))
 (all_goals (first|omega|contradiction|(exfalso;have hmx:IntKind.i64.max=9223372036854775807:=rfl;rw [hmx] at hx;simp [ByteArray.size_append,ByteArray.size] at hx;omega)|skip))
 all_goals exact Qf.mk (Cj (Yf (Yf (Yf (Yf (Yf rfl rfl) rfl) rfl) rfl) rfl) rfl)
theorem pr7:PrC (.mk 7 [] 0 []):=fun H=>by
 have hp:PT (.mk 7 [] 0 [])= [115,116,111,112,32,59]:=by unfold PT;rw [Q2];rfl
 rw [hp]
 (refine Qc.pure (by simp [Qk]) (Qd _) ?_;rw [nV,cellsN];refine Qc.go Tryz.func12 rfl ?_;(repeat' (first|with_reducible refine And.intro ?_ ?_|(with_reducible intro hc;(try simp only [zz] at hc);try exact ct)|((conv=>whnf);first|(with_reducible first|refine And.intro ?_ ?_|intro hx|apply Val.via|apply Qi.via)|exact Is.mk rfl rfl|refine sp ?_|refine vx (by (first|exact Qg hk0 rfl|exact Qg hk1 rfl|exact Qg hk2 rfl|exact Qg hk3 (N5 rfl (by omega))|exact Qo rfl rfl|exact Qa rfl rfl rfl|rfl)) ?_|refine dY ?_|fail|refine sq ?_)));(all_goals (first|omega|contradiction|(exfalso;have hmx:IntKind.i64.max=9223372036854775807:=rfl;rw [hmx] at hx;simp [ByteArray.size_append,ByteArray.size] at hx;omega)|skip)))
 all_goals exact Qf.mk rfl
theorem pr8 {v:Nat} (hv:v≤2147483648):PrC (.mk 8 [] v []):=fun H=>by
 have hp:PT (.mk 8 [] v [])=Lib.decDigits v:=by unfold PT;rw [Q2];rfl
 rw [hp]
 have k1:=fun H=>prDigits v v (Nat.le_refl _) (by omega) H
 (refine Qc.pure (by simp [Qk]) (Qd _) ?_;rw [nV,cellsN];refine Qc.go Tryz.func12 rfl ?_;(repeat' (first|with_reducible refine And.intro ?_ ?_|(with_reducible intro hc;(try simp only [zz] at hc);try exact ct)|((conv=>whnf);first|(with_reducible first|refine And.intro ?_ ?_|intro hx|apply Val.via|apply Qi.via)|exact Is.mk rfl rfl|refine sp ?_|refine vx (by (first|exact Qg hk0 rfl|exact Qg hk1 rfl|exact Qg hk2 rfl|exact Qg hk3 (N5 rfl (by omega))|exact Qo rfl rfl|exact Qa rfl rfl rfl|rfl)) ?_|refine dY ?_|refine cl (k1 _) ?_|refine sq ?_)));(all_goals (first|omega|contradiction|(exfalso;have hmx:IntKind.i64.max=9223372036854775807:=rfl;rw [hmx] at hx;simp [ByteArray.size_append,ByteArray.size] at hx;omega)|skip)))
 all_goals exact Qf.mk rfl
theorem pr9 {x:List UInt8} (hl:x.length≤1500):PrC (.mk 9 x 0 []):=fun H=>by
 have hp:PT (.mk 9 x 0 [])=Wg x:=by unfold PT;rw [Q2];rfl
 rw [hp]
 have k1:=fun H=>rquote_call x hl H
 (refine Qc.pure (by simp [Qk]) (Qd _) ?_;rw [nV,cellsN];refine Qc.go Tryz.func12 rfl ?_;(repeat' (first|with_reducible refine And.intro ?_ ?_|(with_reducible intro hc;(try simp only [zz] at hc);try exact ct)|((conv=>whnf);first|(with_reducible first|refine And.intro ?_ ?_|intro hx|apply Val.via|apply Qi.via)|exact Is.mk rfl rfl|refine sp ?_|refine vx (by (first|exact Qg hk0 rfl|exact Qg hk1 rfl|exact Qg hk2 rfl|exact Qg hk3 (N5 rfl (by omega))|exact Qo rfl rfl|exact Qa rfl rfl rfl|rfl)) ?_|refine dY ?_|refine cl (k1 _) ?_|refine sq ?_)));(all_goals (first|omega|contradiction|(exfalso;have hmx:IntKind.i64.max=9223372036854775807:=rfl;rw [hmx] at hx;simp [ByteArray.size_append,ByteArray.size] at hx;omega)|skip)))
 all_goals exact Qf.mk rfl
theorem pr10:PrC (.mk 10 [] 0 []):=fun H=>by
 have hp:PT (.mk 10 [] 0 [])= [110,105,108]:=by unfold PT;rw [Q2];rfl
 rw [hp]
 (refine Qc.pure (by simp [Qk]) (Qd _) ?_;rw [nV,cellsN];refine Qc.go Tryz.func12 rfl ?_;(repeat' (first|with_reducible refine And.intro ?_ ?_|(with_reducible intro hc;(try simp only [zz] at hc);try exact ct)|((conv=>whnf);first|(with_reducible first|refine And.intro ?_ ?_|intro hx|apply Val.via|apply Qi.via)|exact Is.mk rfl rfl|refine sp ?_|refine vx (by (first|exact Qg hk0 rfl|exact Qg hk1 rfl|exact Qg hk2 rfl|exact Qg hk3 (N5 rfl (by omega))|exact Qo rfl rfl|exact Qa rfl rfl rfl|rfl)) ?_|refine dY ?_|fail|refine sq ?_)));(all_goals (first|omega|contradiction|(exfalso;have hmx:IntKind.i64.max=9223372036854775807:=rfl;rw [hmx] at hx;simp [ByteArray.size_append,ByteArray.size] at hx;omega)|skip)))
 all_goals exact Qf.mk rfl
theorem pr11 (x:List UInt8):PrC (.mk 11 x 0 []):=fun H=>by
 have hp:PT (.mk 11 x 0 [])=x:=by unfold PT;rw [Q2];rfl
 rw [hp]
 (refine Qc.pure (by simp [Qk]) (Qd _) ?_;rw [nV,cellsN];refine Qc.go Tryz.func12 rfl ?_;(repeat' (first|with_reducible refine And.intro ?_ ?_|(with_reducible intro hc;(try simp only [zz] at hc);try exact ct)|((conv=>whnf);first|(with_reducible first|refine And.intro ?_ ?_|intro hx|apply Val.via|apply Qi.via)|exact Is.mk rfl rfl|refine sp ?_|refine vx (by (first|exact Qg hk0 rfl|exact Qg hk1 rfl|exact Qg hk2 rfl|exact Qg hk3 (N5 rfl (by omega))|exact Qo rfl rfl|exact Qa rfl rfl rfl|rfl)) ?_|refine dY ?_|fail|refine sq ?_)));(all_goals (first|omega|contradiction|(exfalso;have hmx:IntKind.i64.max=9223372036854775807:=rfl;rw [hmx] at hx;simp [ByteArray.size_append,ByteArray.size] at hx;omega)|skip)))
 all_goals exact Qf.mk rfl
theorem pr0 (ks:List Nd) (hl:ks.length≤20000) (hk: ∀ k∈ks,Wn k):PrC (.mk 0 [] 0 ks):=fun H=>by
 have hp:PT (.mk 0 [] 0 ks)=Ky [32] (ks.map PT):=by
  rw [← join_flat fun k hm=>(hk k hm).ne]
  unfold PT
  rw [Q2]
  rfl
 rw [hp]
 have k1:=fun H=>prRows ks hl [32] (by decide) hk H
 generalize Ky [32] (ks.map PT)=p at *
 (refine Qc.pure (by simp [Qk]) (Qd _) ?_;rw [nV,cellsN];refine Qc.go Tryz.func12 rfl ?_;(repeat' (first|with_reducible refine And.intro ?_ ?_|(with_reducible intro hc;(try simp only [zz] at hc);try exact ct)|((conv=>whnf);first|(with_reducible first|refine And.intro ?_ ?_|intro hx|apply Val.via|apply Qi.via)|exact Is.mk rfl rfl|refine sp ?_|refine vx (by (first|exact Qg hk0 rfl|exact Qg hk1 rfl|exact Qg hk2 rfl|exact Qg hk3 (N5 rfl (by omega))|exact Qo rfl rfl|exact Qa rfl rfl rfl|rfl)) ?_|refine dY ?_|refine cl (k1 _) ?_|refine sq ?_)));(all_goals (first|omega|contradiction|(exfalso;have hmx:IntKind.i64.max=9223372036854775807:=rfl;rw [hmx] at hx;simp [ByteArray.size_append,ByteArray.size] at hx;omega)|skip)))
 all_goals exact Qf.mk rfl
theorem pr2 (ks:List Nd) (hl:ks.length≤20000) (hk: ∀ k∈ks,Wn k):PrC (.mk 2 [] 0 ks):=fun H=>by
 have hJ:=join_flat fun k hm=>(hk k hm).ne
 have hb:=Cv (sep:= [32]) (by decide) (L:=ks.map PT) (fun x hx=>by
  obtain ⟨k,hk2,rfl⟩:=List.mem_map.1 hx
  exact (hk k hk2).len)
 rw [List.length_map] at hb
 have k1:=fun H=>prRows ks hl [32] (by decide) hk H
 by_cases h0:ks= []
 ·subst h0
  have hp:PT (.mk 2 [] 0 [])= [123,32,125]:=by unfold PT;rw [Q2];rfl
  rw [hp]
  (refine Qc.pure (by simp [Qk]) (Qd _) ?_;rw [nV,cellsN];refine Qc.go Tryz.func12 rfl ?_;(repeat' (first|with_reducible refine And.intro ?_ ?_|(with_reducible intro hc;(try simp only [zz] at hc);try exact ct)|((conv=>whnf);first|(with_reducible first|refine And.intro ?_ ?_|intro hx|apply Val.via|apply Qi.via)|exact Is.mk rfl rfl|refine sp ?_|refine vx (by (first|exact Qg hk0 rfl|exact Qg hk1 rfl|exact Qg hk2 rfl|exact Qg hk3 (N5 rfl (by omega))|exact Qo rfl rfl|exact Qa rfl rfl rfl|rfl)) ?_|refine dY ?_|fail|refine sq ?_)));(all_goals (first|omega|contradiction|(exfalso;have hmx:IntKind.i64.max=9223372036854775807:=rfl;rw [hmx] at hx;simp [ByteArray.size_append,ByteArray.size] at hx;omega)|skip)))
  all_goals exact Qf.mk rfl
 ·have hne:(ks.map sgN).flatten≠ []:=by
   obtain ⟨k,r,rfl⟩:=List.exists_cons_of_ne_nil h0
   simp [(hk k (by simp)).ne]
  have hp:PT (.mk 2 [] 0 ks)=([123,32]++Ky [32] (ks.map PT))++ [32,125]:=by
   conv=>lhs;unfold PT
   rw [Q2]
   show joinG (mkG [123]::((ks.map sgN).flatten++ [mkG [125]]))=_
   rw [Js (by simp),X8 hne (by simp),hJ]
   simp [Wh,mkG,joinG]
  rw [hp]
  have hl0:0 < ks.length:=List.length_pos_iff.2 h0
  generalize Ky [32] (ks.map PT)=p at *
  (refine Qc.pure (by simp [Qk]) (Qd _) ?_;rw [nV,cellsN];refine Qc.go Tryz.func12 rfl ?_;(repeat' (first|with_reducible refine And.intro ?_ ?_|(with_reducible intro hc;(try simp only [zz] at hc);try exact ct)|((conv=>whnf);first|(with_reducible first|refine And.intro ?_ ?_|intro hx|apply Val.via|apply Qi.via)|exact Is.mk rfl rfl|refine sp ?_|refine vx (by (first|exact Qg hk0 rfl|exact Qg hk1 rfl|exact Qg hk2 rfl|exact Qg hk3 (N5 rfl (by omega))|exact Qo rfl rfl|exact Qa rfl rfl rfl|rfl)) ?_|refine dY ?_|refine cl (k1 _) ?_|refine sq ?_)));(all_goals (first|omega|contradiction|(exfalso;have hmx:IntKind.i64.max=9223372036854775807:=rfl;rw [hmx] at hx;simp [ByteArray.size_append,ByteArray.size] at hx;omega)|skip)))
  all_goals exact Qf.mk (Cj (Yf (Yf rfl rfl) rfl) rfl)
theorem pr12 (x:List UInt8) (hx:x.length≤1000000000) (ks:List Nd) (hl:ks.length≤20000) (hk: ∀ k∈ks,Wn k):PrC (.mk 12 x 0 ks):=fun H=>by
 have hJ:=join_row fun k hm=>(hk k hm).ne
 have hb:=Cv (sep:= [32,44,32]) (by decide) (L:=ks.map PT) (fun x hx=>by
  obtain ⟨k,hk2,rfl⟩:=List.mem_map.1 hx
  exact (hk k hk2).len)
 rw [List.length_map] at hb
 have k1:=fun H=>prRows ks hl [32,44,32] (by decide) hk H
 by_cases h0:ks= []
 ·subst h0
  have hp:PT (.mk 12 x 0 [])=x++ [32,40,32,41]:=by unfold PT;rw [Q2];rfl
  rw [hp]
  (refine Qc.pure (by simp [Qk]) (Qd _) ?_;rw [nV,cellsN];refine Qc.go Tryz.func12 rfl ?_;(repeat' (first|with_reducible refine And.intro ?_ ?_|(with_reducible intro hc;(try simp only [zz] at hc);try exact ct)|((conv=>whnf);first|(with_reducible first|refine And.intro ?_ ?_|intro hx|apply Val.via|apply Qi.via)|exact Is.mk rfl rfl|refine sp ?_|refine vx (by (first|exact Qg hk0 rfl|exact Qg hk1 rfl|exact Qg hk2 rfl|exact Qg hk3 (N5 rfl (by omega))|exact Qo rfl rfl|exact Qa rfl rfl rfl|rfl)) ?_|refine dY ?_|fail|refine sq ?_)));(all_goals (first|omega|contradiction|(exfalso;have hmx:IntKind.i64.max=9223372036854775807:=rfl;rw [hmx] at hx;simp [ByteArray.size_append,ByteArray.size] at hx;omega)|skip)))
  all_goals exact Qf.mk (Cj (Yf rfl rfl) rfl)
 ·have hne:=rowG_ne (fun k hm=>(hk k hm).ne) h0
  have hp:PT (.mk 12 x 0 ks)=((x++ [32,40,32])++Ky [32,44,32] (ks.map PT))++ [32,41]:=by
   conv=>lhs;unfold PT
   rw [Um,Js (by simp),Js (by simp),X8 hne (by simp),hJ]
   simp [Wh,mkG,nmG,joinG]
  rw [hp]
  have hl0:0 < ks.length:=List.length_pos_iff.2 h0
  generalize Ky [32,44,32] (ks.map PT)=p at *
  (refine Qc.pure (by simp [Qk]) (Qd _) ?_;rw [nV,cellsN];refine Qc.go Tryz.func12 rfl ?_;(repeat' (first|with_reducible refine And.intro ?_ ?_|(with_reducible intro hc;(try simp only [zz] at hc);try exact ct)|((conv=>whnf);first|(with_reducible first|refine And.intro ?_ ?_|intro hx|apply Val.via|apply Qi.via)|exact Is.mk rfl rfl|refine sp ?_|refine vx (by (first|exact Qg hk0 rfl|exact Qg hk1 rfl|exact Qg hk2 rfl|exact Qg hk3 (N5 rfl (by omega))|exact Qo rfl rfl|exact Qa rfl rfl rfl|rfl)) ?_|refine dY ?_|refine cl (k1 _) ?_|refine sq ?_)));(all_goals (first|omega|contradiction|(exfalso;have hmx:IntKind.i64.max=9223372036854775807:=rfl;rw [hmx] at hx;simp [ByteArray.size_append,ByteArray.size] at hx;omega)|skip)))
  all_goals exact Qf.mk (Cj (Yf (Yf (Yf rfl rfl) rfl) rfl) rfl)
theorem pr3 (x:List UInt8) (hx:x.length≤1000000000) (k:Nd) (hk:Wn k):PrC (.mk 3 x 0 [k]):=fun H=>by
 have hp:PT (.mk 3 x 0 [k])=((x++ [32,61,32])++PT k)++ [32,59]:=by
  unfold PT
  rw [Q2]
  show joinG (nmG x::mkG [61]::(sgN k++ [mkG [59]]))=_
  rw [Js (by simp),Js (by simp [hk.ne]),X8 hk.ne (by simp)]
  simp [Wh,mkG,nmG,joinG]
 rw [hp]
 have k1:=hk.call
 have l1:=hk.len
 generalize PT k=p at *
 have hk0: [k][0]? = some k:=rfl
 have hlen: [k].length=1:=rfl
 clear hp hk
 generalize [k]=ks at *
 obtain ⟨op,tx,nm,k2⟩:=k
 simp only [nV,cellsN] at k1
 (refine Qc.pure (by simp [Qk]) (Qd _) ?_;rw [nV,cellsN];refine Qc.go Tryz.func12 rfl ?_;(repeat' (first|with_reducible refine And.intro ?_ ?_|(with_reducible intro hc;(try simp only [zz] at hc);try exact ct)|((conv=>whnf);first|(with_reducible first|refine And.intro ?_ ?_|intro hx|apply Val.via|apply Qi.via)|exact Is.mk rfl rfl|refine sp ?_|refine vx (by (first|exact Qg hk0 rfl|exact Qg hk1 rfl|exact Qg hk2 rfl|exact Qg hk3 (N5 rfl (by omega))|exact Qo rfl rfl|exact Qa rfl rfl rfl|rfl)) ?_|refine dY ?_|refine cl (k1 _) ?_|refine sq ?_)));(all_goals (first|omega|contradiction|(exfalso;have hmx:IntKind.i64.max=9223372036854775807:=rfl;rw [hmx] at hx;simp [ByteArray.size_append,ByteArray.size] at hx;omega)|skip)))
 all_goals exact Qf.mk (Cj (Yf (Yf (Yf rfl rfl) rfl) rfl) rfl)
theorem pr4 (k:Nd) (hk:Wn k):PrC (.mk 4 [] 0 [k]):=fun H=>by
 have hp:PT (.mk 4 [] 0 [k])=PT k++ [32,59]:=by
  unfold PT
  rw [Q2]
  show joinG (sgN k++ [mkG [59]])=_
  rw [X8 hk.ne (by simp)]
  simp [Wh,mkG,joinG]
 rw [hp]
 have k1:=hk.call
 have l1:=hk.len
 generalize PT k=p at *
 have hk0: [k][0]? = some k:=rfl
 have hlen: [k].length=1:=rfl
 clear hp hk
 generalize [k]=ks at *
 obtain ⟨op,tx,nm,k2⟩:=k
 simp only [nV,cellsN] at k1
 (refine Qc.pure (by simp [Qk]) (Qd _) ?_;rw [nV,cellsN];refine Qc.go Tryz.func12 rfl ?_;(repeat' (first|with_reducible refine And.intro ?_ ?_|(with_reducible intro hc;(try simp only [zz] at hc);try exact ct)|((conv=>whnf);first|(with_reducible first|refine And.intro ?_ ?_|intro hx|apply Val.via|apply Qi.via)|exact Is.mk rfl rfl|refine sp ?_|refine vx (by (first|exact Qg hk0 rfl|exact Qg hk1 rfl|exact Qg hk2 rfl|exact Qg hk3 (N5 rfl (by omega))|exact Qo rfl rfl|exact Qa rfl rfl rfl|rfl)) ?_|refine dY ?_|refine cl (k1 _) ?_|refine sq ?_)));(all_goals (first|omega|contradiction|(exfalso;have hmx:IntKind.i64.max=9223372036854775807:=rfl;rw [hmx] at hx;simp [ByteArray.size_append,ByteArray.size] at hx;omega)|skip)))
 all_goals exact Qf.mk (Cj (Yf rfl rfl) rfl)
theorem pr6 (k b:Nd) (hk:Wn k) (hb:Wn b):PrC (.mk 6 [] 0 [k,b]):=fun H=>by
 have hp:PT (.mk 6 [] 0 [k,b])=(([119,104,105,108,101,32]++PT k)++ [32])++PT b:=by
  unfold PT
  rw [Q2]
  show joinG (wdG [119,104,105,108,101]::(sgN k++sgN b))=_
  rw [Js (by simp [hk.ne]),X8 hk.ne hb.ne]
  simp [Wh,wdG]
 rw [hp]
 have k1:=hk.call
 have l1:=hk.len
 have k2:=hb.call
 have l2:=hb.len
 generalize PT k=p at *
 generalize PT b=q at *
 have hk0: [k,b][0]? = some k:=rfl
 have hk1: [k,b][1]? = some b:=rfl
 have hlen: [k,b].length=2:=rfl
 clear hp hk hb
 generalize [k,b]=ks at *
 obtain ⟨op,tx,nm,k3⟩:=k
 obtain ⟨op2,tx2,nm2,k4⟩:=b
 simp only [nV,cellsN] at k1 k2
 (refine Qc.pure (by simp [Qk]) (Qd _) ?_;rw [nV,cellsN];refine Qc.go Tryz.func12 rfl ?_;(repeat' (first|with_reducible refine And.intro ?_ ?_|(with_reducible intro hc;(try simp only [zz] at hc);try exact ct)|((conv=>whnf);first|(with_reducible first|refine And.intro ?_ ?_|intro hx|apply Val.via|apply Qi.via)|exact Is.mk rfl rfl|refine sp ?_|refine vx (by (first|exact Qg hk0 rfl|exact Qg hk1 rfl|exact Qg hk2 rfl|exact Qg hk3 (N5 rfl (by omega))|exact Qo rfl rfl|exact Qa rfl rfl rfl|rfl)) ?_|refine dY ?_|(first|refine cl (k1 _) ?_|refine cl (k2 _) ?_)|refine sq ?_)));(all_goals (first|omega|contradiction|(exfalso;have hmx:IntKind.i64.max=9223372036854775807:=rfl;rw [hmx] at hx;simp [ByteArray.size_append,ByteArray.size] at hx;omega)|skip)))
 all_goals exact Qf.mk (Cj (Yf (Yf (Yf rfl rfl) rfl) rfl) rfl)
theorem pr52 (k b:Nd) (hk:Wn k) (hb:Wn b):PrC (.mk 5 [] 0 [k,b]):=fun H=>by
 have hp:PT (.mk 5 [] 0 [k,b])=(([105,102,32]++PT k)++ [32])++PT b:=by
  unfold PT
  rw [Q2]
  show joinG (wdG [105,102]::(sgN k++(sgN b++ [])))=_
  rw [List.append_nil,Js (by simp [hk.ne]),X8 hk.ne hb.ne]
  simp [Wh,wdG]
 rw [hp]
 have k1:=hk.call
 have l1:=hk.len
 have k2:=hb.call
 have l2:=hb.len
 generalize PT k=p at *
 generalize PT b=q at *
 have hk0: [k,b][0]? = some k:=rfl
 have hk1: [k,b][1]? = some b:=rfl
 have hlen: [k,b].length=2:=rfl
 clear hp hk hb
 generalize [k,b]=ks at *
 obtain ⟨op,tx,nm,k3⟩:=k
 obtain ⟨op2,tx2,nm2,k4⟩:=b
 simp only [nV,cellsN] at k1 k2
 (refine Qc.pure (by simp [Qk]) (Qd _) ?_;rw [nV,cellsN];refine Qc.go Tryz.func12 rfl ?_;(repeat' (first|with_reducible refine And.intro ?_ ?_|(with_reducible intro hc;(try simp only [zz] at hc);try exact ct)|((conv=>whnf);first|(with_reducible first|refine And.intro ?_ ?_|intro hx|apply Val.via|apply Qi.via)|exact Is.mk rfl rfl|refine sp ?_|refine vx (by (first|exact Qg hk0 rfl|exact Qg hk1 rfl|exact Qg hk2 rfl|exact Qg hk3 (N5 rfl (by omega))|exact Qo rfl rfl|exact Qa rfl rfl rfl|rfl)) ?_|refine dY ?_|(first|refine cl (k1 _) ?_|refine cl (k2 _) ?_)|refine sq ?_)));(all_goals (first|omega|contradiction|(exfalso;have hmx:IntKind.i64.max=9223372036854775807:=rfl;rw [hmx] at hx;simp [ByteArray.size_append,ByteArray.size] at hx;omega)|skip)))
 all_goals exact Qf.mk (Cj (Yf (Yf (Yf rfl rfl) rfl) rfl) rfl)
theorem pr14 (x:List UInt8) (hx:x.length≤1000000000) (k:Nd) (ho:OpOk k) (hk:Wn k) (hI:(joinG (sgI 5 k)).length≤1000000100):PrC (.mk 14 x 0 [k]):=fun H=>by
 have hne:sgI 5 k≠ []:=by unfold sgI brG;split <;> simp [hk.ne]
 have hp:PT (.mk 14 x 0 [k])=(x++ [32])++joinG (sgI 5 k):=by
  unfold PT
  rw [Ct,Js hne,Df]
  simp
 rw [hp]
 have k1:=fun H=>prInner k ho hk 5 (by decide) H
 generalize joinG (sgI 5 k)=p at *
 have hk0: [k][0]? = some k:=rfl
 have hlen: [k].length=1:=rfl
 clear hp hk ho hne
 generalize [k]=ks at *
 obtain ⟨op,tx,nm,k2⟩:=k
 simp only [nV,cellsN] at k1
 (refine Qc.pure (by simp [Qk]) (Qd _) ?_;rw [nV,cellsN];refine Qc.go Tryz.func12 rfl ?_;(repeat' (first|with_reducible refine And.intro ?_ ?_|(with_reducible intro hc;(try simp only [zz] at hc);try exact ct)|((conv=>whnf);first|(with_reducible first|refine And.intro ?_ ?_|intro hx|apply Val.via|apply Qi.via)|exact Is.mk rfl rfl|refine sp ?_|refine vx (by (first|exact Qg hk0 rfl|exact Qg hk1 rfl|exact Qg hk2 rfl|exact Qg hk3 (N5 rfl (by omega))|exact Qo rfl rfl|exact Qa rfl rfl rfl|rfl)) ?_|refine dY ?_|refine cl (k1 _) ?_|refine sq ?_)));(all_goals (first|omega|contradiction|(exfalso;have hmx:IntKind.i64.max=9223372036854775807:=rfl;rw [hmx] at hx;simp [ByteArray.size_append,ByteArray.size] at hx;omega)|skip)))
 all_goals exact Qf.mk (Cj (Yf (Yf rfl rfl) rfl) rfl)
theorem sgI_len {r:Nat} {k:Nd} (hk:Wn k):(joinG (sgI r k)).length≤1000000004:=by
 unfold sgI
 cases decide (rankN k < r) with
 | true =>
  rw [brG_join hk.ne]
  have:=hk.len
  unfold PT at this
  simp only [List.length_append,List.length_cons,List.length_nil]
  omega
 | false =>
  have:=hk.len
  unfold PT at this
  show (joinG (sgN k)).length≤_
  omega
theorem pr13 (x:List UInt8) (hxl:x.length≤1000000000) (a b:Nd) (hx:x∈opL (lvO x)) (oa:OpOk a) (ob:OpOk b) (ha:Wn a) (hb:Wn b):PrC (.mk 13 x 0 [a,b]):=fun H=>by
 have hna:sgI (raO (lvO x)) a≠ []:=by unfold sgI brG;split <;> simp [ha.ne]
 have hnb:sgI (lvO x+1) b≠ []:=by unfold sgI brG;split <;> simp [hb.ne]
 have hp:PT (.mk 13 x 0 [a,b])=(((joinG (sgI (raO (lvO x)) a)++ [32])++x)++ [32])++joinG (sgI (lvO x+1) b):=by
  unfold PT
  rw [Ua,X8 hna (by simp),Js hnb,Df]
  simp
 rw [hp]
 have la:=sgI_len (r:=raO (lvO x)) ha
 have lb:=sgI_len (r:=lvO x+1) hb
 have hl:lvO x≤4:=by
  unfold lvO
  repeat' split
  all_goals omega
 have hra:raO (lvO x)≤4:=by unfold raO;split <;> omega
 have hr:rkN x=lvO x:=(Ni x (lvO x) (by omega)).1 (by simpa using hx)
 have kr:=fun H=>Eb x H
 rw [hr] at kr
 unfold rkI at kr
 rw [if_pos (by omega)] at kr
 have k1:=fun H=>prInner a oa ha (raO (lvO x)) (by omega) H
 have k2:=fun H=>prInner b ob hb (lvO x+1) (by omega) H
 generalize joinG (sgI (lvO x+1) b)=q at *
 generalize joinG (sgI (raO (lvO x)) a)=p at *
 have e2:iV ((lvO x+1:Nat):Int)= .sc (.int .i64 ((lvO x:Int)+1)):=rfl
 rw [e2] at k2
 have hk0: [a,b][0]? = some a:=rfl
 have hk1: [a,b][1]? = some b:=rfl
 have hlen: [a,b].length=2:=rfl
 clear hp ha hb oa ob hna hnb hr hx
 generalize [a,b]=ks at *
 obtain ⟨op,tx,nm,k3⟩:=a
 obtain ⟨op2,tx2,nm2,k4⟩:=b
 simp only [nV,cellsN] at k1 k2
 by_cases h2:lvO x=2
 ·rw [h2] at kr k1 k2
  (refine Qc.pure (by simp [Qk]) (Qd _) ?_;rw [nV,cellsN];refine Qc.go Tryz.func12 rfl ?_;(repeat' (first|with_reducible refine And.intro ?_ ?_|(with_reducible intro hc;(try simp only [zz] at hc);try exact ct)|((conv=>whnf);first|(with_reducible first|refine And.intro ?_ ?_|intro hx|apply Val.via|apply Qi.via)|exact Is.mk rfl rfl|refine sp ?_|refine vx (by (first|exact Qg hk0 rfl|exact Qg hk1 rfl|exact Qg hk2 rfl|exact Qg hk3 (N5 rfl (by omega))|exact Qo rfl rfl|exact Qa rfl rfl rfl|rfl)) ?_|refine dY ?_|(first|refine cl (kr _) ?_|refine cl (k1 _) ?_|refine cl (k2 _) ?_)|refine sq ?_)));(all_goals (first|omega|contradiction|(exfalso;have hmx:IntKind.i64.max=9223372036854775807:=rfl;rw [hmx] at hx;simp [ByteArray.size_append,ByteArray.size] at hx;omega)|skip)))
  all_goals exact Qf.mk (Cj (Yf (Yf (Yf (Yf rfl rfl) rfl) rfl) rfl) rfl)
 ·have e3:raO (lvO x)=lvO x:=by unfold raO;rw [if_neg h2]
  rw [e3] at k1
  generalize lvO x=z at *
  (refine Qc.pure (by simp [Qk]) (Qd _) ?_;rw [nV,cellsN];refine Qc.go Tryz.func12 rfl ?_;(repeat' (first|with_reducible refine And.intro ?_ ?_|(with_reducible intro hc;(try simp only [zz] at hc);try exact ct)|((conv=>whnf);first|(with_reducible first|refine And.intro ?_ ?_|intro hx|apply Val.via|apply Qi.via)|exact Is.mk rfl rfl|refine sp ?_|refine vx (by (first|exact Qg hk0 rfl|exact Qg hk1 rfl|exact Qg hk2 rfl|exact Qg hk3 (N5 rfl (by omega))|exact Qo rfl rfl|exact Qa rfl rfl rfl|rfl)) ?_|refine dY ?_|(first|refine cl (kr _) ?_|refine cl (k1 _) ?_|refine cl (k2 _) ?_)|refine sq ?_)));(all_goals (first|omega|contradiction|(exfalso;have hmx:IntKind.i64.max=9223372036854775807:=rfl;rw [hmx] at hx;simp [ByteArray.size_append,ByteArray.size] at hx;omega)|skip)))
  all_goals exact Qf.mk (Cj (Yf (Yf (Yf (Yf rfl rfl) rfl) rfl) rfl) rfl)
theorem pr1 (x:List UInt8) (hx:x.length≤1000000000) (vs:List Nd) (hl:vs.length≤20000) (hk: ∀ k∈vs,Wn k) (b:Nd) (hb:Wn b):PrC (.mk 1 x 0 (vs++ [b])):=fun H=>by
 have hJ:=join_row fun k hm=>(hk k hm).ne
 have hbl:=Cv (sep:= [32,44,32]) (by decide) (L:=vs.map PT) (fun x hx=>by
  obtain ⟨k,hk2,rfl⟩:=List.mem_map.1 hx
  exact (hk k hk2).len)
 rw [List.length_map] at hbl
 have k1:=fun H=>prRows vs hl [32,44,32] (by decide) hk H
 have k2:=hb.call
 have l2:=hb.len
 have hs:sgN (.mk 1 x 0 (vs++ [b]))=wdG [111,110]::nmG x::mkG [40]::(rowG (vs.map sgN)++mkG [41]::sgN b):=by
  rw [Q2]
  simp [X4]
 have hbn:=hb.ne
 have hlen:(vs++ [b]).length=vs.length+1:=by simp
 have hk3:(vs++ [b])[vs.length]? = some b:=by simp
 by_cases h0:vs= []
 ·subst h0
  have hp:PT (.mk 1 x 0 ([]++ [b]))=((((([111,110,32]++x)++ [32,40,32])++ [])++ [41,32])++PT b):=by
   conv=>lhs;unfold PT
   rw [hs]
   show joinG (wdG [111,110]::nmG x::mkG [40]::mkG [41]::sgN b)=_
   rw [Js (by simp),Js (by simp),Js (by simp),Js hbn,show joinG (sgN b)=PT b from rfl]
   simp [Wh,mkG,nmG,wdG]
  rw [hp]
  have hJ0:Ky [32,44,32] (([]:List Nd).map PT)= []:=rfl
  rw [hJ0] at k1
  generalize PT b=q at *
  clear hp hs hJ hb hk
  obtain ⟨ks,hks⟩: ∃ ks,([]:List Nd)++ [b]=ks:=⟨_,rfl⟩
  rw [hks] at hk3 hlen ⊢
  obtain ⟨op,tx,nm,b2⟩:=b
  simp only [nV,cellsN] at k2
  have hk0:ks[0]? = some (.mk op tx nm b2):=hk3
  have hlen:ks.length=1:=hlen
  (refine Qc.pure (by simp [Qk]) (Qd _) ?_;rw [nV,cellsN];refine Qc.go Tryz.func12 rfl ?_;(repeat' (first|with_reducible refine And.intro ?_ ?_|(with_reducible intro hc;(try simp only [zz] at hc);try exact ct)|((conv=>whnf);first|(with_reducible first|refine And.intro ?_ ?_|intro hx|apply Val.via|apply Qi.via)|exact Is.mk rfl rfl|refine sp ?_|refine vx (by (first|exact Qg hk0 rfl|exact Qg hk1 rfl|exact Qg hk2 rfl|exact Qg hk3 (N5 rfl (by omega))|exact Qo rfl rfl|exact Qa rfl rfl rfl|rfl)) ?_|refine dY ?_|(first|refine cl (k2 _) ?_|(refine Q7.arg21 (rowArg hks.symm (by omega) rfl) ?_;refine cl (k1 _) ?_))|refine sq ?_)));(all_goals (first|omega|contradiction|(exfalso;have hmx:IntKind.i64.max=9223372036854775807:=rfl;rw [hmx] at hx;simp [ByteArray.size_append,ByteArray.size] at hx;omega)|skip)))
  all_goals exact Qf.mk (Cj (Yf (Yf (Yf (Yf (Yf rfl rfl) rfl) rfl) rfl) rfl) rfl)
 ·have hne:=rowG_ne (fun k hm=>(hk k hm).ne) h0
  have hp:PT (.mk 1 x 0 (vs++ [b]))=((((([111,110,32]++x)++ [32,40,32])++(Ky [32,44,32] (vs.map PT)++ [32]))++ [41,32])++PT b):=by
   conv=>lhs;unfold PT
   rw [hs,Js (by simp),Js (by simp),Js (by simp [hne]),X8 hne (by simp),Js hbn,hJ,show joinG (sgN b)=PT b from rfl]
   simp [Wh,mkG,nmG,wdG]
  rw [hp]
  have hl0:0 < vs.length:=List.length_pos_iff.2 h0
  generalize Ky [32,44,32] (vs.map PT)=p at *
  generalize PT b=q at *
  clear hp hs hJ hb hk hne
  obtain ⟨ks,hks⟩: ∃ ks,vs++ [b]=ks:=⟨_,rfl⟩
  rw [hks] at hk3 hlen ⊢
  obtain ⟨op,tx,nm,b2⟩:=b
  simp only [nV,cellsN] at k2
  (refine Qc.pure (by simp [Qk]) (Qd _) ?_;rw [nV,cellsN];refine Qc.go Tryz.func12 rfl ?_;(repeat' (first|with_reducible refine And.intro ?_ ?_|(with_reducible intro hc;(try simp only [zz] at hc);try exact ct)|((conv=>whnf);first|(with_reducible first|refine And.intro ?_ ?_|intro hx|apply Val.via|apply Qi.via)|exact Is.mk rfl rfl|refine sp ?_|refine vx (by (first|exact Qg hk0 rfl|exact Qg hk1 rfl|exact Qg hk2 rfl|exact Qg hk3 (N5 rfl (by omega))|exact Qo rfl rfl|exact Qa rfl rfl rfl|rfl)) ?_|refine dY ?_|(first|refine cl (k2 _) ?_|(refine Q7.arg21 (rowArg hks.symm (by omega) rfl) ?_;refine cl (k1 _) ?_))|refine sq ?_)));(all_goals (first|omega|contradiction|(exfalso;have hmx:IntKind.i64.max=9223372036854775807:=rfl;rw [hmx] at hx;simp [ByteArray.size_append,ByteArray.size] at hx;omega)|skip)))
  all_goals exact Qf.mk (Cj (Yf (Yf (Yf (Yf (Yf rfl rfl) rfl) (Yf rfl rfl)) rfl) rfl) rfl)
end Go.Proofs.YtnmjdjldbloefaaGreatDoor
