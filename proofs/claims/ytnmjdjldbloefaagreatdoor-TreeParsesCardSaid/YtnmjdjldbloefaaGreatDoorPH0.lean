import Derived.Test.YtnmjdjldbloefaaGreatDoorPE5
import Derived.Test.YtnmjdjldbloefaaGreatDoorPH3
import Derived.Test.YtnmjdjldbloefaaGreatDoorPG4
import Derived.Test.YtnmjdjldbloefaaGreatDoorPH5
/- Small things that several texts need. -/
namespace Go.Proofs.YtnmjdjldbloefaaGreatDoor
open Go Go.RowKit
set_option linter.unusedSimpArgs false
set_option linter.unusedVariables false
set_option maxRecDepth 100000
set_option maxHeartbeats 8000000
theorem ag4_view {H:Heap} {a b c:VV} {nm n z:Nat} {vs:List VV} (hg:H.get nm=some (.opt vs)) (hl:vs.length=n*z): ∀ B M Z ρ w y,Rel B M Z ρ H w→Qm w Z ρ (.ag [a,b,c,.gs nm n z]) y→Qm w Z ρ (.ag [a,b,c,.ro n vs]) y∨ ∃ k N,ρ nm=some (k,N)∧Qm w (fun j=>Z j∨j=k) ρ (.ag [a,b,c,.ro n vs]) y:=by
 intro B M Z ρ w y hr hv
 cases hv with
 | @ag _ cs h1 r1 =>
  obtain ⟨cs⟩:=cs
  match cs,h1 with
  | [p,q,r,t],_ =>
   have h0:=r1 0 _ _ rfl rfl
   have h2:=r1 1 _ _ rfl rfl
   have h3:=r1 2 _ _ rfl rfl
   rcases gs_view hg hl B M Z ρ w t hr (r1 3 _ _ rfl rfl) with h|⟨k,N,hk,h⟩
   ·exact .inl (Qm.ag' (Pw.cons h0 (Pw.cons h2 (Pw.cons h3 (Pw.cons h Pw.nil)))))
   ·have z: ∀ {v y},Qm w Z ρ v y→Qm w (fun j=>Z j∨j=k) ρ v y:=fun hv=>hv.zmono fun _ h=> .inl h
    exact .inr ⟨k,N,hk,Qm.ag' (Pw.cons (z h0) (Pw.cons (z h2) (Pw.cons (z h3) (Pw.cons h Pw.nil))))⟩
theorem Qr.freezeAg {o:Oper} {ts:List VV} {H:Heap} {K:VV→Heap→Prop} {a b c:VV} {nm n z:Nat} {vs:List VV} (i:Nat) (hi:ts[i]? = some (.ag [a,b,c,.gs nm n z])) (hg:H.get nm=some (.opt vs)) (hl:vs.length=n*z) (h:Qr Tryz.prog o (ts.set i (.ag [a,b,c,.ro n vs])) (H.del nm) K):Qr Tryz.prog o ts H K:=frz_op i hi hg rfl (ag4_view hg hl) h
theorem lexG_wf: ∀ (f:Nat) (u:List UInt8) (a cnt:Nat) (l:List (Sg×Nat)),lexG f u a cnt= .inr l→WfL l∧(cnt≤1024→l.length+cnt≤1025)
 | 0,u,a,cnt,l,h=>by rw [lexG] at h;cases h
 | f+1,u,a,cnt,l,h=>by
  rw [lexG] at h
  split at h
  ·injection h with h
   subst h
   exact ⟨⟨[],_,rfl,rfl⟩,fun hc=>by simp;omega⟩
  ·split at h
   ·cases h
   ·split at h
    ·cases h
    ·rename_i hc
     cases hL:lexG f (Zy (u.drop (Xr u).n)) (a+(Xr u).n+empB (u.drop (Xr u).n) false) (cnt+1) with
     | inl e=>rw [hL] at h;cases h
     | inr l1 =>
      rw [hL] at h
      injection h with h
      subst h
      obtain ⟨⟨p,z,e1,e2⟩,h2⟩:=lexG_wf f _ _ _ l1 hL
      exact ⟨⟨_::p,z,by rw [e1];rfl,e2⟩,fun _=>by have:=h2 (by omega);simp only [List.length_cons];omega⟩
theorem Nt {t:List UInt8} {l:List (Sg×Nat)} (h:Yi t= .inr l):WfL l∧l.length≤1025:=by
 unfold Yi at h
 split at h
 ·cases h
 ·obtain ⟨h1,h2⟩:=lexG_wf _ _ _ _ _ h
  exact ⟨h1,by have:=h2 (by omega);omega⟩
theorem Q6 {l:List Nd} {i o op nm:Nat} {tx:List UInt8} {ks:List Nd} (h:l[i]? = some (.mk op tx nm ks)) (ho:o=i*4):vat Tryz.prog 27 (rowsN l) o=some (.ag [iV op,Qe tx,iV nm,.ro ks.length (rowsN ks)]):=by
 have h1:Dq Tryz.prog 27=some true:=by kernel_rfl
 have h2:Jv Tryz.prog 27=some 4:=by kernel_rfl
 subst ho
 have key: ∀ (l:List Nd) (i:Nat) (n:Nd),l[i]? = some n→((rowsN l).drop (i*4)).take 4=cellsN n∧i*4+4≤(rowsN l).length:=by
  intro l
  induction l with
  | nil=>intro i n h;simp at h
  | cons q r ih =>
   intro i n h
   cases i with
   | zero =>
    simp at h
    subst h
    rw [rowsN]
    refine ⟨?_,by rw [List.length_append,Yj];omega⟩
    rw [Nat.zero_mul,List.drop_zero,List.take_append_of_le_length (by rw [Yj];exact Nat.le_refl _),List.take_of_length_le (by rw [Yj];exact Nat.le_refl _)]
   | succ i =>
    have ih:=ih i n (by simpa using h)
    rw [rowsN,show (i+1)*4=(cellsN q).length+i*4 by rw [Yj];omega,List.drop_append]
    refine ⟨?_,by rw [List.length_append];omega⟩
    rw [List.drop_of_length_le (by omega),List.nil_append,show (cellsN q).length+i*4 - (cellsN q).length=i*4 by omega]
    exact ih.1
 obtain ⟨k1,k2⟩:=key l i _ h
 have h3:Nat.ble (i*4+4) (rowsN l).length=true:=Nat.ble_eq_true_of_le k2
 simp only [vat,h1,h2,h3,k1,cellsN]
theorem dupB_yes {seen:List (List UInt8)} {op nm:Nat} {tx:List UInt8} {kk r:List Nd} (h:seen.contains tx=true):dupB seen (.mk op tx nm kk::r)=true:=by
 rw [dupB]
 exact if_pos h
theorem dupB_no {seen:List (List UInt8)} {op nm:Nat} {tx:List UInt8} {kk r:List Nd} (h:seen.contains tx=false):dupB seen (.mk op tx nm kk::r)=dupB (seen++ [tx]) r:=by
 rw [dupB]
 exact if_neg (by show ¬ seen.contains tx=true;rw [h];decide)
def resP (ks:List Nd):Bool→Nd×Nat
 | true=>(nd0,5)
 | false=>(.mk 0 [] 0 ks,0)
theorem resP_eq (ks:List Nd):(if dupB [] (Nd.mk 0 [] 0 ks).kids=true then (nd0,5) else ((Nd.mk 0 [] 0 ks:Nd),0))=resP ks (dupB [] ks):=by
 show (if dupB [] ks=true then _ else _)=_
 cases dupB [] ks <;> rfl
end Go.Proofs.YtnmjdjldbloefaaGreatDoor
