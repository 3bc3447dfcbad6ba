import Derived.Test.YtnmjdjldbloefaaGreatDoorShelf
import Derived.Test.YtnmjdjldbloefaaGreatDoorPE5
import Derived.Test.YtnmjdjldbloefaaGreatDoorPH1
/- strings.Join, by the kit's contract; a row that a closed run makes. -/
namespace Go.Proofs.YtnmjdjldbloefaaGreatDoor
open Go Go.RowKit
set_option linter.unusedSimpArgs false
set_option linter.unusedVariables false
theorem join_call (xs:List (List UInt8)) (sep:List UInt8) (hx:xs≠ []) (hN:xs.length≤140737488355328) (hl:(Lib.join xs sep).length≤140737488355328) (H:Heap):Qc Tryz.prog 25 [.ro xs.length (xs.map Qe),Qe sep] H (fun v K=>v=Qe (Lib.join xs sep)∧K=H):=fun B M Z ρ w ra h1 h2=>by
 obtain ⟨hlen,hrel⟩:=h2
 match hra:ra.toList,hlen with
 | [a0,a1],_ =>
  have r0:=hrel 0 (.ro xs.length (xs.map Qe)) a0 rfl (by rw [hra];rfl)
  have r1:=hrel 1 (Qe sep) a1 rfl (by rw [hra];rfl)
  have e1:a1= .string ⟨sep.toArray⟩:=Jr r1
  subst e1
  obtain rfl:ra= #[a0,.string ⟨sep.toArray⟩]:=by
   cases ra
   simp only at hra
   rw [hra]
  obtain ⟨vs,hvs⟩: ∃ vs,xs.map Qe=vs:=⟨_,rfl⟩
  obtain ⟨n,hn⟩: ∃ n,xs.length=n:=⟨_,rfl⟩
  rw [hvs,hn] at r0
  cases r0 with
  | ro0=>exact absurd (List.eq_nil_of_length_eq_zero hn) hx
  | @ro _ k o c' _ cs hZ hle hl2 hcell hr =>
   have hmm:(xs.map (fun x=>(⟨x.toArray⟩:ByteArray))).map (·.data.toList)=xs:=by
    rw [List.map_map]
    exact (List.map_congr_left fun x _=>rfl).trans (List.map_id xs)
   have hj:=Tryz.strings_Join k o c' (xs.map fun x=>⟨x.toArray⟩) ⟨sep.toArray⟩ w (fun j x hj=>by
    rw [List.getElem?_map] at hj
    cases hq:xs[j]? with
    | none=>rw [hq] at hj;cases hj
    | some y =>
     rw [hq] at hj
     injection hj with hj
     subst hj
     have hm:vs[j]? = some (Qe y):=by rw [← hvs,List.getElem?_map,hq];rfl
     have hjl:j < vs.length:=(List.getElem?_eq_some_iff.1 hm).1
     have hjc:j < cs.length:=by omega
     rw [hcell j hjc,List.getElem?_eq_getElem hjc]
     have hq2:=hr j _ _ hm (List.getElem?_eq_getElem hjc)
     rw [Jr hq2]) (h1.zlt k hZ) (by rw [List.length_map];exact hN) (by rw [List.length_map];omega) (by rw [hmm];exact hl)
   rw [hmm,List.length_map,hn] at hj
   refine hj.mono ?_
   rintro e w' ⟨rfl,hb⟩
   obtain ⟨e2,r2⟩:=h1.step (Z':=Z) hb.os hb.tape hb.output hb.size (fun k hk=>hb.block k hk) (fun _ h=>h) (fun _ h=> .inl h)
   exact ⟨_,Qe (Lib.join xs sep),H,Z,ρ,rfl,⟨rfl,rfl⟩,e2,r2,.sc rfl⟩
def isRow (r:Option (VV×Heap)) (xs:List (List UInt8)):Bool:=match r with
 | some (.sl b 0 n _ 1,K)=>match K.get b with
  | some (.cells true vs)=>Nat.beq n xs.length&&veqL (vs.take n) (xs.map Qe)&&Nat.ble n vs.length
  | _=>false
 | _=>false
theorem Qc.rowS {P:Program} {f:FuncId} {args:List VV} {H:Heap} (hm:P.follows .mixedOrders=true) (n:Nat) {xs:List (List UInt8)} (ha: ∀ v∈args,Qq v) (h:isRow (We P (X6 P n) f args ⟨[],0⟩) xs=true):Qc P f args H (fun v K=>v= .ro xs.length (xs.map Qe)∧K=H):=by
 unfold isRow at h
 split at h
 ·rename_i b m c K hr
  split at h
  ·rename_i vs hg
   simp only [Bool.and_eq_true] at h
   obtain ⟨⟨h1,h2⟩,h3⟩:=h
   have h1:=Nat.eq_of_beq_eq_true h1
   have h2:=W8 h2
   have h3:=Nat.le_of_ble_eq_true h3
   refine Qc.frozen (Q:=fun v K'=>v= .sl b 0 m c 1∧K'=K) ha (Qc.run hm n hr) ?_
   rintro v K' ⟨rfl,rfl⟩
   subst h1
   have hn: ∀ v∈vs.take xs.length,Qq v:=fun v hv=>by
    rw [h2] at hv
    exact Jg Qd xs v hv
   have:=Frz.slL (K:=K') (b:=b) (o:=0) (n:=xs.length) (z:=1) (c:=c) (us:=xs.map Qe) hg (by omega) (by
    rw [List.drop_zero,Nat.mul_one,h2]
    exact B9.of (Jg Qd xs))
   exact this
  ·cases h
 ·cases h
set_option maxRecDepth 100000
set_option maxHeartbeats 8000000
def nd20:Nd:= .mk 0 [] 0 [.mk 1 [97] 0 [.mk 11 [120] 0 [],.mk 2 [] 0 [.mk 3 [121] 0 [.mk 13 [43] 0 [.mk 8 [] 1 [],.mk 13 [42] 0 [.mk 8 [] 2 [],.mk 11 [120] 0 []]]]]]]
def tx20:List UInt8:= [111,110,32,97,40,120,41,123,121,61,49,43,50,42,120,59,125]
def pr20:List (List UInt8):= [[111,110],[97],[40],[120],[41],[123],[121],[61],[49],[43],[50],[42],[120],[59],[125]]
def out20:List UInt8:= [111,110,32,97,32,40,32,120,32,41,32,123,32,121,32,61,32,49,32,43,32,50,32,42,32,120,32,59,32,125]
theorem parse20:Ym tx20=(nd20,0):=by rfl
theorem rank_add (n:Int) (c:Nat) (vs:List VV) (hv:Qq (.ro c vs)) (H:Heap):Qc Tryz.prog 53 [.ag [iV 13,Qe [43],iV n,.ro c vs]] H (fun v K=>v=iV 3∧K=H):=by
 refine Qc.pure (by simp only [List.mem_cons,List.not_mem_nil,or_false];rintro v rfl;exact Xs (by simp only [List.mem_cons,List.not_mem_nil,or_false];rintro v (rfl|rfl|rfl|rfl);exact Qb _;exact Qd _;exact Qb _;exact hv)) (Qb _) ?_
 have c0:=fun H=>(Qc.closedA mixed 60 (H:=H) (u:= .bool false) (by simp [Qd,Xz]) (by kernel_rfl):Qc Tryz.prog 83 [roL (opL 0),Qe [43]] H _)
 have c1:=fun H=>(Qc.closedA mixed 60 (H:=H) (u:= .bool false) (by simp [Qd,Xz]) (by kernel_rfl):Qc Tryz.prog 83 [roL (opL 1),Qe [43]] H _)
 have c2:=fun H=>(Qc.closedA mixed 60 (H:=H) (u:= .bool false) (by simp [Qd,Xz]) (by kernel_rfl):Qc Tryz.prog 83 [roL (opL 2),Qe [43]] H _)
 have c3:=fun H=>(Qc.closedA mixed 60 (H:=H) (u:= .bool true) (by simp [Qd,Xz]) (by kernel_rfl):Qc Tryz.prog 83 [roL (opL 3),Qe [43]] H _)
 refine Qc.go Tryz.func53 rfl ?_
 (repeat' (first|with_reducible refine And.intro ?_ ?_|(with_reducible intro hc;(try simp only [zz] at hc);try exact ct)|((conv=>whnf);first|(with_reducible first|refine And.intro ?_ ?_|intro hx|apply Val.via|apply Qi.via)|exact Is.mk rfl rfl|refine sp ?_|refine vx (by (first|exact Qa rfl rfl rfl|rfl)) ?_|refine dY ?_|(first|refine cl (J0 _) ?_|(refine Q7.mk (Qc.inl Tryz.func80 rfl ?_)))|refine sq ?_)))
 (all_goals (first|omega|contradiction|(exact (by decide))|skip))
 refine Ji.mk (GWP.rounds 6 (GWP.step ?_))
 (repeat' (first|with_reducible refine And.intro ?_ ?_|(with_reducible intro hc;(try simp only [zz] at hc);try exact ct)|((conv=>whnf);first|(with_reducible first|refine And.intro ?_ ?_|intro hx|apply Val.via|apply Qi.via)|exact Is.mk rfl rfl|refine sp ?_|refine vx (by (first|exact Qa rfl rfl rfl|rfl)) ?_|refine dY ?_|(first|refine cl (J0 _) ?_|(refine Q7.mk (Qc.inl Tryz.func80 rfl ?_))|(refine Q7.mk (Qc.inl Tryz.func82 rfl ?_))|refine cl (c0 _) ?_)|refine sq ?_)))
 (all_goals (first|omega|contradiction|(exact (by decide))|skip))
 refine Wb.step ?_
 (repeat' (first|with_reducible refine And.intro ?_ ?_|(with_reducible intro hc;(try simp only [zz] at hc);try exact ct)|((conv=>whnf);first|(with_reducible first|refine And.intro ?_ ?_|intro hx|apply Val.via|apply Qi.via)|exact Is.mk rfl rfl|refine sp ?_|refine vx (by (first|exact Qa rfl rfl rfl|rfl)) ?_|refine dY ?_|(first|refine cl (J0 _) ?_|(refine Q7.mk (Qc.inl Tryz.func80 rfl ?_))|(refine Q7.mk (Qc.inl Tryz.func82 rfl ?_))|refine cl (c1 _) ?_)|refine sq ?_)))
 (all_goals (first|omega|contradiction|(exact (by decide))|skip))
 refine Wb.step ?_
 (repeat' (first|with_reducible refine And.intro ?_ ?_|(with_reducible intro hc;(try simp only [zz] at hc);try exact ct)|((conv=>whnf);first|(with_reducible first|refine And.intro ?_ ?_|intro hx|apply Val.via|apply Qi.via)|exact Is.mk rfl rfl|refine sp ?_|refine vx (by (first|exact Qa rfl rfl rfl|rfl)) ?_|refine dY ?_|(first|refine cl (J0 _) ?_|(refine Q7.mk (Qc.inl Tryz.func80 rfl ?_))|(refine Q7.mk (Qc.inl Tryz.func82 rfl ?_))|refine cl (c2 _) ?_)|refine sq ?_)))
 (all_goals (first|omega|contradiction|(exact (by decide))|skip))
 refine Wb.step ?_
 (repeat' (first|with_reducible refine And.intro ?_ ?_|(with_reducible intro hc;(try simp only [zz] at hc);try exact ct)|((conv=>whnf);first|(with_reducible first|refine And.intro ?_ ?_|intro hx|apply Val.via|apply Qi.via)|exact Is.mk rfl rfl|refine sp ?_|refine vx (by (first|exact Qa rfl rfl rfl|rfl)) ?_|refine dY ?_|(first|refine cl (J0 _) ?_|(refine Q7.mk (Qc.inl Tryz.func80 rfl ?_))|(refine Q7.mk (Qc.inl Tryz.func82 rfl ?_))|refine cl (c3 _) ?_)|refine sq ?_)))
 (all_goals (first|omega|contradiction|(exact (by decide))|skip))
 all_goals exact Qf.mk rfl
theorem rank_mul (n:Int) (c:Nat) (vs:List VV) (hv:Qq (.ro c vs)) (H:Heap):Qc Tryz.prog 53 [.ag [iV 13,Qe [42],iV n,.ro c vs]] H (fun v K=>v=iV 4∧K=H):=by
 refine Qc.pure (by simp only [List.mem_cons,List.not_mem_nil,or_false];rintro v rfl;exact Xs (by simp only [List.mem_cons,List.not_mem_nil,or_false];rintro v (rfl|rfl|rfl|rfl);exact Qb _;exact Qd _;exact Qb _;exact hv)) (Qb _) ?_
 have c0:=fun H=>(Qc.closedA mixed 60 (H:=H) (u:= .bool false) (by simp [Qd,Xz]) (by kernel_rfl):Qc Tryz.prog 83 [roL (opL 0),Qe [42]] H _)
 have c1:=fun H=>(Qc.closedA mixed 60 (H:=H) (u:= .bool false) (by simp [Qd,Xz]) (by kernel_rfl):Qc Tryz.prog 83 [roL (opL 1),Qe [42]] H _)
 have c2:=fun H=>(Qc.closedA mixed 60 (H:=H) (u:= .bool false) (by simp [Qd,Xz]) (by kernel_rfl):Qc Tryz.prog 83 [roL (opL 2),Qe [42]] H _)
 have c3:=fun H=>(Qc.closedA mixed 60 (H:=H) (u:= .bool false) (by simp [Qd,Xz]) (by kernel_rfl):Qc Tryz.prog 83 [roL (opL 3),Qe [42]] H _)
 have c4:=fun H=>(Qc.closedA mixed 60 (H:=H) (u:= .bool true) (by simp [Qd,Xz]) (by kernel_rfl):Qc Tryz.prog 83 [roL (opL 4),Qe [42]] H _)
 refine Qc.go Tryz.func53 rfl ?_
 (repeat' (first|with_reducible refine And.intro ?_ ?_|(with_reducible intro hc;(try simp only [zz] at hc);try exact ct)|((conv=>whnf);first|(with_reducible first|refine And.intro ?_ ?_|intro hx|apply Val.via|apply Qi.via)|exact Is.mk rfl rfl|refine sp ?_|refine vx (by (first|exact Qa rfl rfl rfl|rfl)) ?_|refine dY ?_|(first|refine cl (J0 _) ?_|(refine Q7.mk (Qc.inl Tryz.func80 rfl ?_)))|refine sq ?_)))
 (all_goals (first|omega|contradiction|(exact (by decide))|skip))
 refine Ji.mk (GWP.rounds 6 (GWP.step ?_))
 (repeat' (first|with_reducible refine And.intro ?_ ?_|(with_reducible intro hc;(try simp only [zz] at hc);try exact ct)|((conv=>whnf);first|(with_reducible first|refine And.intro ?_ ?_|intro hx|apply Val.via|apply Qi.via)|exact Is.mk rfl rfl|refine sp ?_|refine vx (by (first|exact Qa rfl rfl rfl|rfl)) ?_|refine dY ?_|(first|refine cl (J0 _) ?_|(refine Q7.mk (Qc.inl Tryz.func80 rfl ?_))|(refine Q7.mk (Qc.inl Tryz.func82 rfl ?_))|refine cl (c0 _) ?_)|refine sq ?_)))
 (all_goals (first|omega|contradiction|(exact (by decide))|skip))
 refine Wb.step ?_
 (repeat' (first|with_reducible refine And.intro ?_ ?_|(with_reducible intro hc;(try simp only [zz] at hc);try exact ct)|((conv=>whnf);first|(with_reducible first|refine And.intro ?_ ?_|intro hx|apply Val.via|apply Qi.via)|exact Is.mk rfl rfl|refine sp ?_|refine vx (by (first|exact Qa rfl rfl rfl|rfl)) ?_|refine dY ?_|(first|refine cl (J0 _) ?_|(refine Q7.mk (Qc.inl Tryz.func80 rfl ?_))|(refine Q7.mk (Qc.inl Tryz.func82 rfl ?_))|refine cl (c1 _) ?_)|refine sq ?_)))
 (all_goals (first|omega|contradiction|(exact (by decide))|skip))
 refine Wb.step ?_
 (repeat' (first|with_reducible refine And.intro ?_ ?_|(with_reducible intro hc;(try simp only [zz] at hc);try exact ct)|((conv=>whnf);first|(with_reducible first|refine And.intro ?_ ?_|intro hx|apply Val.via|apply Qi.via)|exact Is.mk rfl rfl|refine sp ?_|refine vx (by (first|exact Qa rfl rfl rfl|rfl)) ?_|refine dY ?_|(first|refine cl (J0 _) ?_|(refine Q7.mk (Qc.inl Tryz.func80 rfl ?_))|(refine Q7.mk (Qc.inl Tryz.func82 rfl ?_))|refine cl (c2 _) ?_)|refine sq ?_)))
 (all_goals (first|omega|contradiction|(exact (by decide))|skip))
 refine Wb.step ?_
 (repeat' (first|with_reducible refine And.intro ?_ ?_|(with_reducible intro hc;(try simp only [zz] at hc);try exact ct)|((conv=>whnf);first|(with_reducible first|refine And.intro ?_ ?_|intro hx|apply Val.via|apply Qi.via)|exact Is.mk rfl rfl|refine sp ?_|refine vx (by (first|exact Qa rfl rfl rfl|rfl)) ?_|refine dY ?_|(first|refine cl (J0 _) ?_|(refine Q7.mk (Qc.inl Tryz.func80 rfl ?_))|(refine Q7.mk (Qc.inl Tryz.func82 rfl ?_))|refine cl (c3 _) ?_)|refine sq ?_)))
 (all_goals (first|omega|contradiction|(exact (by decide))|skip))
 refine Wb.step ?_
 (repeat' (first|with_reducible refine And.intro ?_ ?_|(with_reducible intro hc;(try simp only [zz] at hc);try exact ct)|((conv=>whnf);first|(with_reducible first|refine And.intro ?_ ?_|intro hx|apply Val.via|apply Qi.via)|exact Is.mk rfl rfl|refine sp ?_|refine vx (by (first|exact Qa rfl rfl rfl|rfl)) ?_|refine dY ?_|(first|refine cl (J0 _) ?_|(refine Q7.mk (Qc.inl Tryz.func80 rfl ?_))|(refine Q7.mk (Qc.inl Tryz.func82 rfl ?_))|refine cl (c4 _) ?_)|refine sq ?_)))
 (all_goals (first|omega|contradiction|(exact (by decide))|skip))
 all_goals exact Qf.mk rfl
def nMul:Nd:= .mk 13 [42] 0 [.mk 8 [] 2 [],.mk 11 [120] 0 []]
def nAdd:Nd:= .mk 13 [43] 0 [.mk 8 [] 1 [],nMul]
theorem inA (H:Heap):Qc Tryz.prog 54 [nV (.mk 8 [] 2 []),iV 4] H (fun v K=>v= .ro 1 [Qe [50]]∧K=H):=Qc.rowS mixed 80 (xs:= [[50]]) (by simp [Qk,iV,Qb]) (by kernel_rfl)
theorem inB (H:Heap):Qc Tryz.prog 54 [nV (.mk 11 [120] 0 []),iV 5] H (fun v K=>v= .ro 1 [Qe [120]]∧K=H):=Qc.rowS mixed 80 (xs:= [[120]]) (by simp [Qk,iV,Qb]) (by kernel_rfl)
theorem inC (H:Heap):Qc Tryz.prog 54 [nV (.mk 8 [] 1 []),iV 3] H (fun v K=>v= .ro 1 [Qe [49]]∧K=H):=Qc.rowS mixed 80 (xs:= [[49]]) (by simp [Qk,iV,Qb]) (by kernel_rfl)
theorem frzSl {K:Heap} {b n:Nat} {c:Option Nat} {vs:List VV} {xs:List (List UInt8)} (hg:K.get b=some (.cells true vs)) (hv:vs=xs.map Qe) (hn:n=xs.length):Frz K (.sl b 0 n c 1) (.ro n (xs.map Qe)):=by
 subst hv hn
 have:=Frz.sl (K:=K) (b:=b) (o:=0) (n:=xs.length) (z:=1) (c:=c) hg (by simp) (Jg Qd xs)
 rw [List.drop_zero,Nat.mul_one,List.take_of_length_le (by simp)] at this
 exact this
theorem sgMul (H:Heap):Qc Tryz.prog 26 [nV nMul] H (fun v K=>v= .ro 3 [Qe [50],Qe [42],Qe [120]]∧K=H):=by
 refine Qc.frozen (Q:=fun v K=>Frz K v (.ro 3 [Qe [50],Qe [42],Qe [120]])) (by simp [Qk]) ?_ (fun v K h=>h)
 have k1:=fun H=>rank_mul 0 2 (rowsN [.mk 8 [] 2 [],.mk 11 [120] 0 []]) (Qx (Qh _)) H
 refine Qc.go Tryz.func26 rfl ?_
 (repeat' (first|with_reducible refine And.intro ?_ ?_|(with_reducible intro hc;(try simp only [zz] at hc);try exact ct)|((conv=>whnf);first|(with_reducible first|refine And.intro ?_ ?_|intro hx|apply Val.via|apply Qi.via)|exact Is.mk rfl rfl|refine sp ?_|refine vx (by (first|exact Qv rfl rfl|exact Qa rfl rfl rfl|rfl)) ?_|refine dY ?_|(first|refine cl (k1 _) ?_|refine cl (inA _) ?_|refine cl (inB _) ?_|(refine Q7.mk (Qc.inl Tryz.func49 rfl ?_)))|refine sq ?_)))
 (all_goals (first|omega|contradiction|(exact (by decide))|skip))
 exact Qf.mk (frzSl (b:=5) (n:=3) (xs:= [[50],[42],[120]]) rfl rfl rfl)
theorem sgAdd (H:Heap):Qc Tryz.prog 26 [nV nAdd] H (fun v K=>v= .ro 5 [Qe [49],Qe [43],Qe [50],Qe [42],Qe [120]]∧K=H):=by
 refine Qc.frozen (Q:=fun v K=>Frz K v (.ro 5 [Qe [49],Qe [43],Qe [50],Qe [42],Qe [120]])) (by simp [Qk]) ?_ (fun v K h=>h)
 have k1:=fun H=>rank_add 0 2 (rowsN [.mk 8 [] 1 [],nMul]) (Qx (Qh _)) H
 have k2:=fun H=>rank_mul 0 2 (rowsN [.mk 8 [] 2 [],.mk 11 [120] 0 []]) (Qx (Qh _)) H
 refine Qc.go Tryz.func26 rfl ?_
 (repeat' (first|with_reducible refine And.intro ?_ ?_|(with_reducible intro hc;(try simp only [zz] at hc);try exact ct)|((conv=>whnf);first|(with_reducible first|refine And.intro ?_ ?_|intro hx|apply Val.via|apply Qi.via)|exact Is.mk rfl rfl|refine sp ?_|refine vx (by (first|exact Qv rfl rfl|exact Qa rfl rfl rfl|rfl)) ?_|refine dY ?_|(first|refine cl (k1 _) ?_|refine cl (inC _) ?_|(refine Q7.mk (Qc.inl Tryz.func49 rfl ?_))|(refine Q7.mk (Qc.inl Tryz.func54 rfl ?_))|refine cl (k2 _) ?_|refine cl (sgMul _) ?_)|refine sq ?_)))
 (all_goals (first|omega|contradiction|(exact (by decide))|skip))
 exact Qf.mk (frzSl (b:=6) (n:=5) (xs:= [[49],[43],[50],[42],[120]]) rfl rfl rfl)
mutual
def veqD:VV→VV→Bool
 | .sc a,.sc b=>vbeq a b
 | .ro n vs,.ro m us=>Nat.beq n m&&veqE vs us
 | .ag vs,.ag us=>veqE vs us
 | _,_=>false
def veqE:List VV→List VV→Bool
 | [],[]=>true
 | a::r,b::s=>veqD a b&&veqE r s
 | _,_=>false
end
mutual
theorem veqD_eq: ∀ (a b:VV),veqD a b=true→a=b
 | .sc a,.sc b,h=>by rw [veqD] at h;rw [vbeq_eq h]
 | .ro n vs,.ro m us,h=>by
  rw [veqD,Bool.and_eq_true] at h
  rw [Nat.eq_of_beq_eq_true h.1,veqE_eq vs us h.2]
 | .ag vs,.ag us,h=>by rw [veqD] at h;rw [veqE_eq vs us h]
 | .sc _,.ptr _ _,h| .sc _,.sl _ _ _ _ _,h| .sc _,.gs _ _ _,h| .sc _,.ro _ _,h| .sc _,.rp _ _,h| .sc _,.fn _ _ _,h| .sc _,.yl _,h| .sc _,.mp _,h| .sc _,.ag _,h| .sc _,.tp _,h| .sc _,.ifc _ _,h| .sc _,.junk,h=>by simp [veqD] at h
 | .ro _ _,.sc _,h| .ro _ _,.ptr _ _,h| .ro _ _,.sl _ _ _ _ _,h| .ro _ _,.gs _ _ _,h| .ro _ _,.rp _ _,h| .ro _ _,.fn _ _ _,h| .ro _ _,.yl _,h| .ro _ _,.mp _,h| .ro _ _,.ag _,h| .ro _ _,.tp _,h| .ro _ _,.ifc _ _,h| .ro _ _,.junk,h=>by simp [veqD] at h
 | .ag _,.sc _,h| .ag _,.ptr _ _,h| .ag _,.sl _ _ _ _ _,h| .ag _,.gs _ _ _,h| .ag _,.ro _ _,h| .ag _,.rp _ _,h| .ag _,.fn _ _ _,h| .ag _,.yl _,h| .ag _,.mp _,h| .ag _,.tp _,h| .ag _,.ifc _ _,h| .ag _,.junk,h=>by simp [veqD] at h
 | .ptr _ _,_,h=>by simp [veqD] at h
 | .sl _ _ _ _ _,_,h=>by simp [veqD] at h
 | .gs _ _ _,_,h=>by simp [veqD] at h
 | .rp _ _,_,h=>by simp [veqD] at h
 | .fn _ _ _,_,h=>by simp [veqD] at h
 | .yl _,_,h=>by simp [veqD] at h
 | .mp _,_,h=>by simp [veqD] at h
 | .tp _,_,h=>by simp [veqD] at h
 | .ifc _ _,_,h=>by simp [veqD] at h
 | .junk,_,h=>by simp [veqD] at h
theorem veqE_eq: ∀ (a b:List VV),veqE a b=true→a=b
 | [],[],_=>rfl
 | a::r,b::s,h=>by
  rw [veqE,Bool.and_eq_true] at h
  rw [veqD_eq a b h.1,veqE_eq r s h.2]
 | [],_::_,h=>by simp [veqE] at h
 | _::_,[],h=>by simp [veqE] at h
end
def orcS:CallF:=fun f args H=>match Nat.beq f 26,args with
 | true,[a]=>match veqD a (nV nAdd) with
  | true=>some (.ro 5 [Qe [49],Qe [43],Qe [50],Qe [42],Qe [120]],H)
  | false=>none
 | _,_=>none
theorem orcS_ok:W4 Tryz.prog orcS:=by
 intro f args H v H' h
 unfold orcS at h
 split at h
 ·rename_i a hf
  have hf:=Nat.eq_of_beq_eq_true hf
  subst hf
  split at h
  ·rename_i h1
   injection h with h
   injection h with h h'
   subst h h'
   rw [veqD_eq _ _ h1]
   exact sgAdd H
  ·cases h
 ·cases h
theorem Qc.rowSO {P:Program} {orc:CallF} (ho:W4 P orc) {f:FuncId} {args:List VV} {H:Heap} (hm:P.follows .mixedOrders=true) (n:Nat) {xs:List (List UInt8)} (ha: ∀ v∈args,Qq v) (h:isRow (D7 orc P (Xp orc P n) f args ⟨[],0⟩) xs=true):Qc P f args H (fun v K=>v= .ro xs.length (xs.map Qe)∧K=H):=by
 unfold isRow at h
 split at h
 ·rename_i b m c K hr
  split at h
  ·rename_i vs hg
   simp only [Bool.and_eq_true] at h
   obtain ⟨⟨h1,h2⟩,h3⟩:=h
   have h1:=Nat.eq_of_beq_eq_true h1
   have h2:=W8 h2
   have h3:=Nat.le_of_ble_eq_true h3
   refine Qc.frozen (Q:=fun v K'=>v= .sl b 0 m c 1∧K'=K) ha (Qc.runO ho hm n hr) ?_
   rintro v K' ⟨rfl,rfl⟩
   subst h1
   have:=Frz.slL (K:=K') (b:=b) (o:=0) (n:=xs.length) (z:=1) (c:=c) (us:=xs.map Qe) hg (by omega) (by
    rw [List.drop_zero,Nat.mul_one,h2]
    exact B9.of (Jg Qd xs))
   exact this
  ·cases h
 ·cases h
theorem signs20 (H:Heap):Qc Tryz.prog 26 [nV nd20] H (fun v K=>v= .ro pr20.length (pr20.map Qe)∧K=H):=Qc.rowSO orcS_ok mixed 80 (by simp [Qk]) (by kernel_rfl)
theorem print20 (H:Heap):Qc Tryz.prog 11 [nV nd20] H (fun v K=>v=Qe out20∧K=H):=by
 refine Qc.pure (by simp [Qk]) (Qd _) ?_
 have k1:=fun H=>signs20 H
 have k2:=fun H=>join_call pr20 [32] (by decide) (by decide) (by decide) H
 refine Qc.go Tryz.func11 rfl ?_
 (repeat' (first|with_reducible refine And.intro ?_ ?_|(with_reducible intro hc;(try simp only [zz] at hc);try exact ct)|((conv=>whnf);first|(with_reducible first|refine And.intro ?_ ?_|intro hx|apply Val.via|apply Qi.via)|exact Is.mk rfl rfl|refine sp ?_|refine vx (by rfl) ?_|refine dY ?_|(first|refine cl (k1 _) ?_|refine cl (k2 _) ?_)|refine sq ?_)))
 (all_goals (first|omega|contradiction|(exact (by decide))|skip))
 all_goals exact Qf.mk rfl
end Go.Proofs.YtnmjdjldbloefaaGreatDoor
