/- A map from sheets to numbers, as a plain set with worths: what a store and a delete make of it. -/
import Derived.Test.YtifehdoghfnhoaaGreatDoorZCNew
import Derived.Maps.OwnIn
import Derived.DeepKeys3
import Derived.KernelRfl
namespace Go.Proofs.YtifehdoghfnhoaaGreatDoor.C
open Go.RowKit Go.Shelf Go.Maps
abbrev DM:=DataW Unit
theorem keyed_sheet:Keyed Tryz.prog 396:=Keyed.of_law (deep_law (m:=4) (by omega) (by kernel_rfl) (by kernel_rfl) (by kernel_rfl))
theorem lits_int{P:Program}{t:TypeId}{q:IntKind}(h:P.underlying t=some (.int q))(n:Nat)(x:Int)(hx:(Lit.int q x).wf=true):P.keyLits (n+1) t [.int q x]=some [.int q x]:=by
 simp[Program.keyLits,h,hx]
theorem lits_sheet(n:Nat)(f k:Int)(hf:(Lit.int .i64 f).wf=true)(hk:(Lit.int .i64 k).wf=true):Tryz.prog.keyLits (n+1+1+1) 396 [.int .i64 f,.int .i64 k]=some [.int .i64 f,.int .i64 k]:=by
 have c1:Tryz.prog.cellsOf 396=2:=by kernel_rfl
 have c2:Tryz.prog.cellsOf 308=2:=by kernel_rfl
 have c3:Tryz.prog.cellsOf 3=1:=by kernel_rfl
 have e1:Tryz.prog.keyLits (n+1+1) 308 [.int .i64 f,.int .i64 k]=some [.int .i64 f,.int .i64 k]:=by
  conv=>lhs;unfold Program.keyLits
  simp only[Tryz.underlying308,c2,c3,lits_int Tryz.underlying3 n f hf,lits_int Tryz.underlying3 n k hk,List.length_cons,List.length_nil,List.mapM_cons,List.mapM_nil,List.drop_zero,List.drop_succ_cons,List.take_succ_cons,List.take_zero]
  rw[if_pos ⟨trivial,by kernel_rfl⟩]
  rfl
 conv=>lhs;unfold Program.keyLits
 simp only[Tryz.underlying396,c1,c2,List.length_cons,List.length_nil,List.mapM_cons,List.mapM_nil,List.drop_zero,List.take_succ_cons,List.take_zero,e1]
 rw[if_pos ⟨trivial,by kernel_rfl⟩]
 rfl
noncomputable def keyL(f k:Nat):Lit:=.string (keyBytes [.int .i64 f,.int .i64 k])
theorem wf_small(n:Nat)(h:n<=1000):(Lit.int .i64 (n:Int)).wf=true:=by
 have h1:IntKind.i64.min=-9223372036854775808:=by decide
 have h2:IntKind.i64.max=9223372036854775807:=by decide
 simp[Lit.wf,h1,h2];omega
theorem keyL_of(f k:Nat)(hf:f<=1000)(hk:k<=1000):keyOf Tryz.prog 396 (.agg #[.int .i64 f,.int .i64 k])=some (keyL f k):=by
 have h1:Tryz.prog.keyType 396=true:=by kernel_rfl
 have h2:∃n,Tryz.prog.types.size+1=n+1+1+1:=⟨Tryz.prog.types.size-2,by kernel_rfl⟩
 obtain⟨n,hn⟩:=h2
 have c1:Tryz.prog.cellsOf 396=2:=by kernel_rfl
 unfold keyOf
 rw[hn]
 simp only[Tryz.underlying396,h1,Value.formed,c1,Value.cells,lits_sheet n f k (wf_small f hf) (wf_small k hk)]
 rfl
theorem keyL_inj{f k f' k':Nat}(hf:f<=1000)(hk:k<=1000)(hf':f'<=1000)(hk':k'<=1000)(h:keyL f k=keyL f' k'):f=f'/\k=k':=by
 have h1:=keyed_sheet.inj (keyL_of f k hf hk) (h▸keyL_of f' k' hf' hk')
 simp at h1
 omega
structure MapIs(D:DM)(S:Nat->Nat->Prop)(wt:Nat->Nat->Int):Prop where
 isMap:IsMap D
 yes:∀f k,S f k->has D (keyL f k)=true/\∀z,D.atKey (keyL f k) z=.lit (.int .i64 (wt f k))
 only:∀z,has D z=true->∃f k,z=keyL f k/\S f k
 small:∀f k,S f k->f<=1000/\k<=1000
section
variable{D:DM}{S S':Nat->Nat->Prop}{wt:Nat->Nat->Int}
theorem MapIs.empty(wt:Nat->Nat->Int):MapIs (.map []) (λ_ _=>False) wt:=⟨isMap_empty,λ_ _ h=>h.elim,λz h=>by simp[has]at h,λ_ _ h=>h.elim⟩
theorem MapIs.congr(h:MapIs D S wt)(hS:∀f k,S f k↔S' f k):MapIs D S' wt:=
 ⟨h.isMap,λf k hs=>h.yes f k ((hS f k).2 hs),λz hz=>by obtain⟨f,k,e,hs⟩:=h.only z hz;exact⟨f,k,e,(hS f k).1 hs⟩,λf k hs=>h.small f k ((hS f k).2 hs)⟩
theorem MapIs.put(h:MapIs D S wt)(f k:Nat)(hf:f<=1000)(hk:k<=1000):MapIs (D.put (keyL f k) (.lit (.int .i64 (wt f k)))) (λf' k'=>S f' k'\/(f'=f/\k'=k)) wt:=by
 have hkl:=keyed_sheet.key (keyL_of f k hf hk)
 refine⟨h.isMap.put _ _,λf' k' hs=>?_,λz hz=>?_,λf' k' hs=>?_⟩
 ·by_cases e:f'=f/\k'=k
  ·obtain⟨rfl,rfl⟩:=e
   exact⟨has_put_same h.isMap hkl _,λz=>atKey_put_same h.isMap hkl _ _⟩
  ·have hs:=hs.resolve_right e
   have hsm:=h.small _ _ hs
   have hne:keyL f' k'≠keyL f k:=λe'=>e (keyL_inj hsm.1 hsm.2 hf hk e')
   rw[has_put_other hne]
   exact⟨(h.yes _ _ hs).1,λz=>by rw[atKey_put_other hne];exact(h.yes _ _ hs).2 z⟩
 ·by_cases e:z=keyL f k
  ·exact⟨f,k,e,.inr ⟨rfl,rfl⟩⟩
  ·rw[has_put_other e]at hz
   obtain⟨f',k',e',hs⟩:=h.only z hz
   exact⟨f',k',e',.inl hs⟩
 ·rcases hs with hs|⟨rfl,rfl⟩
  ·exact h.small _ _ hs
  ·exact⟨hf,hk⟩
theorem MapIs.del(h:MapIs D S wt)(f k:Nat)(hf:f<=1000)(hk:k<=1000):MapIs (D.del (keyL f k)) (λf' k'=>S f' k'/\¬(f'=f/\k'=k)) wt:=by
 refine⟨h.isMap.del _,λf' k' hs=>?_,λz hz=>?_,λf' k' hs=>h.small _ _ hs.1⟩
 ·obtain⟨hs,e⟩:=hs
  have hsm:=h.small _ _ hs
  have hne:keyL f' k'≠keyL f k:=λe'=>e (keyL_inj hsm.1 hsm.2 hf hk e')
  rw[has_del_other hne]
  exact⟨(h.yes _ _ hs).1,λz=>by rw[atKey_del_other hne];exact(h.yes _ _ hs).2 z⟩
 ·by_cases e:z=keyL f k
  ·subst e;rw[has_del_same]at hz;cases hz
  ·rw[has_del_other e]at hz
   obtain⟨f',k',e',hs⟩:=h.only z hz
   refine⟨f',k',e',hs,?_⟩
   rintro⟨rfl,rfl⟩
   exact e e'
end
end Go.Proofs.YtifehdoghfnhoaaGreatDoor.C
