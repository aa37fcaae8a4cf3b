/- slices.Grow of nil, and slices.Concat of two slices of one block, at int. -/
import Derived.Test.YtlclnbhjjdcnkaaGreatDoorZCNew
import Derived.Maps.OwnIn
import Derived.DeepKeys3
import Derived.KernelRfl
import Derived.Test.YtlclnbhjjdcnkaaGreatDoorZCFirst
import Derived.Laws.CopyOwn
import Derived.Deep.RegionHeld3
import Derived.Deep.AppendLies
import Derived.Lib.AppendZeros
namespace Go.Proofs.YtlclnbhjjdcnkaaGreatDoor.C
open Go.RowKit Go.Shelf Go.Maps
abbrev DM:=DataW Unit
theorem keyed_sheet:Keyed Tryz.prog 121:=Keyed.of_law (deep_law (m:=4) (by omega) (by kernel_rfl) (by kernel_rfl) (by kernel_rfl))
theorem lits_int{P:Program}{t:TypeId}{q:IntKind}(h:P.underlying t=some (.int q))(n:Nat)(x:Int)(hx:(Lit.int q x).wf=true):P.keyLits (n+1) t [.int q x]=some [.int q x]:=by
 simp[Program.keyLits,h,hx]
theorem lits_sheet(n:Nat)(f k:Int)(hf:(Lit.int .i64 f).wf=true)(hk:(Lit.int .i64 k).wf=true):Tryz.prog.keyLits (n+1+1+1) 121 [.int .i64 f,.int .i64 k]=some [.int .i64 f,.int .i64 k]:=by
 have c1:Tryz.prog.cellsOf 121=2:=by kernel_rfl
 have c2:Tryz.prog.cellsOf 37=2:=by kernel_rfl
 have c3:Tryz.prog.cellsOf 3=1:=by kernel_rfl
 have e1:Tryz.prog.keyLits (n+1+1) 37 [.int .i64 f,.int .i64 k]=some [.int .i64 f,.int .i64 k]:=by
  conv=>lhs;unfold Program.keyLits
  simp only[Tryz.underlying37,c2,c3,lits_int Tryz.underlying3 n f hf,lits_int Tryz.underlying3 n k hk,List.length_cons,List.length_nil,List.mapM_cons,List.mapM_nil,List.drop_zero,List.drop_succ_cons,List.take_succ_cons,List.take_zero]
  rw[if_pos ⟨trivial,by kernel_rfl⟩]
  rfl
 conv=>lhs;unfold Program.keyLits
 simp only[Tryz.underlying121,c1,c2,List.length_cons,List.length_nil,List.mapM_cons,List.mapM_nil,List.drop_zero,List.take_succ_cons,List.take_zero,e1]
 rw[if_pos ⟨trivial,by kernel_rfl⟩]
 rfl
noncomputable def keyL(f k:Nat):Lit:=.string (keyBytes [.int .i64 f,.int .i64 k])
theorem wf_small(n:Nat)(h:n<=1000):(Lit.int .i64 (n:Int)).wf=true:=by
 have h1:IntKind.i64.min=-9223372036854775808:=by decide
 have h2:IntKind.i64.max=9223372036854775807:=by decide
 simp[Lit.wf,h1,h2];omega
theorem keyL_of(f k:Nat)(hf:f<=1000)(hk:k<=1000):keyOf Tryz.prog 121 (.agg #[.int .i64 f,.int .i64 k])=some (keyL f k):=by
 have h1:Tryz.prog.keyType 121=true:=by kernel_rfl
 have h2:∃n,Tryz.prog.types.size+1=n+1+1+1:=⟨Tryz.prog.types.size-2,by kernel_rfl⟩
 obtain⟨n,hn⟩:=h2
 have c1:Tryz.prog.cellsOf 121=2:=by kernel_rfl
 unfold keyOf
 rw[hn]
 simp only[Tryz.underlying121,h1,Value.formed,c1,Value.cells,lits_sheet n f k (wf_small f hf) (wf_small k hk)]
 rfl
theorem keyL_inj{f k f' k':Nat}(hf:f<=1000)(hk:k<=1000)(hf':f'<=1000)(hk':k'<=1000)(h:keyL f k=keyL f' k'):f=f'/\k=k':=by
 have h1:=keyed_sheet.inj (keyL_of f k hf hk) (h▸keyL_of f' k' hf' hk')
 simp at h1
 omega
structure MapIs(D:DM)(S:Nat->Nat->Prop)(wt:Nat->Nat->Int):Prop where
 isMap:IsMap D
 yes:∀f k,S f k->has D (keyL f k)=true/\∀z,D.atKey (keyL f k) z=.lit (.int .i64 (wt f k))
 only:∀z,has D z=true->∃f k,z=keyL f k/\S f k
 small:∀f k,S f k->f<=1000/\k<=1000
section
variable{D:DM}{S S':Nat->Nat->Prop}{wt:Nat->Nat->Int}
theorem MapIs.empty(wt:Nat->Nat->Int):MapIs (.map []) (λ_ _=>False) wt:=⟨isMap_empty,λ_ _ h=>h.elim,λz h=>by simp[has]at h,λ_ _ h=>h.elim⟩
theorem MapIs.congr(h:MapIs D S wt)(hS:∀f k,S f k↔S' f k):MapIs D S' wt:=
 ⟨h.isMap,λf k hs=>h.yes f k ((hS f k).2 hs),λz hz=>by obtain⟨f,k,e,hs⟩:=h.only z hz;exact⟨f,k,e,(hS f k).1 hs⟩,λf k hs=>h.small f k ((hS f k).2 hs)⟩
theorem MapIs.put(h:MapIs D S wt)(f k:Nat)(hf:f<=1000)(hk:k<=1000):MapIs (D.put (keyL f k) (.lit (.int .i64 (wt f k)))) (λf' k'=>S f' k'\/(f'=f/\k'=k)) wt:=by
 have hkl:=keyed_sheet.key (keyL_of f k hf hk)
 refine⟨h.isMap.put _ _,λf' k' hs=>?_,λz hz=>?_,λf' k' hs=>?_⟩
 ·by_cases e:f'=f/\k'=k
  ·obtain⟨rfl,rfl⟩:=e
   exact⟨has_put_same h.isMap hkl _,λz=>atKey_put_same h.isMap hkl _ _⟩
  ·have hs:=hs.resolve_right e
   have hsm:=h.small _ _ hs
   have hne:keyL f' k'≠keyL f k:=λe'=>e (keyL_inj hsm.1 hsm.2 hf hk e')
   rw[has_put_other hne]
   exact⟨(h.yes _ _ hs).1,λz=>by rw[atKey_put_other hne];exact(h.yes _ _ hs).2 z⟩
 ·by_cases e:z=keyL f k
  ·exact⟨f,k,e,.inr ⟨rfl,rfl⟩⟩
  ·rw[has_put_other e]at hz
   obtain⟨f',k',e',hs⟩:=h.only z hz
   exact⟨f',k',e',.inl hs⟩
 ·rcases hs with hs|⟨rfl,rfl⟩
  ·exact h.small _ _ hs
  ·exact⟨hf,hk⟩
theorem MapIs.del(h:MapIs D S wt)(f k:Nat)(hf:f<=1000)(hk:k<=1000):MapIs (D.del (keyL f k)) (λf' k'=>S f' k'/\¬(f'=f/\k'=k)) wt:=by
 refine⟨h.isMap.del _,λf' k' hs=>?_,λz hz=>?_,λf' k' hs=>h.small _ _ hs.1⟩
 ·obtain⟨hs,e⟩:=hs
  have hsm:=h.small _ _ hs
  have hne:keyL f' k'≠keyL f k:=λe'=>e (keyL_inj hsm.1 hsm.2 hf hk e')
  rw[has_del_other hne]
  exact⟨(h.yes _ _ hs).1,λz=>by rw[atKey_del_other hne];exact(h.yes _ _ hs).2 z⟩
 ·by_cases e:z=keyL f k
  ·subst e;rw[has_del_same]at hz;cases hz
  ·rw[has_del_other e]at hz
   obtain⟨f',k',e',hs⟩:=h.only z hz
   refine⟨f',k',e',hs,?_⟩
   rintro⟨rfl,rfl⟩
   exact e e'
end
abbrev OwnsM(W:World)(b n:Nat)(D:DM):Prop:=W.ownsMap Tryz.prog 121 (plainElem Tryz.prog 2) b n D
abbrev RangesM(W:World)(b r n:Nat)(D:DM)(left:Lit->Bool)(cnt:Nat):Prop:=W.ranges Tryz.prog 121 (plainElem Tryz.prog 2) b r n D left cnt
theorem und_msheet:Tryz.prog.underlying 118=some (.map 121 2):=by kernel_rfl
theorem und_i64:Tryz.prog.underlying 2=some (.int .i64):=by kernel_rfl
theorem elem_val(x:Int)(h:(Lit.int .i64 x).wf=true):plainElem (H:=Unit) Tryz.prog 2 (.int .i64 x)=some (.lit (.int .i64 x),[]):=plainElem_int und_i64 h
theorem wf_mid(x:Int)(h0:0<=x)(h1:x<=1000000):(Lit.int .i64 x).wf=true:=by
 have h2:IntKind.i64.min=-9223372036854775808:=by decide
 have h3:IntKind.i64.max=9223372036854775807:=by decide
 simp[Lit.wf,h2,h3];omega
end Go.Proofs.YtlclnbhjjdcnkaaGreatDoor.C
namespace Go.Proofs.YtlclnbhjjdcnkaaGreatDoor.C
open Go.RowKit Go.Shelf
theorem run_copy_any{P:Program}(w:World)(dT sT ty elem:TypeId)(g dLen dCap:Nat)(a:Addr)(sLen sCap:Nat)(cur:Array Value)(t:TypeId)(cs:List Value)(i:TypeInfo)
 (hu:P.underlying dT=some (.slice elem))(hi:P.info? elem=some i)
 (hg:w.heap[g]? =some (.cells cur t (0,0))) (hn:cs.length=Nat.min sLen dLen*i.size)
 (hsrc:∀j v,cs[j]? =some v->w.cell? (a.add j)=some v) (hfit:cs.length<=cur.size) (h1:∀v∈cs,v.oneCell'=true):
 (Builtin.copy_ #[dT,sT] ty #[.slice (some ⟨g,0,none⟩) dLen dCap,.slice (some a) sLen sCap]).run P w=
   .ok (goInt (Nat.min sLen dLen:Nat)) (w.setRow g (cs++cur.toList.drop cs.length).toArray):=by
 have hl:=run_loadCells_list (P:=P) w a cs hsrc
 have hst:=run_storeCells_at P g 0 t cs 0 cur w hg (by simpa using hfit) h1
 simp only[Nat.add_zero,Nat.zero_add,List.take_zero,List.nil_append]at hst
 simp[Builtin.copy_,run_underlying hu,Builtin.lenOf,Builtin.firstCells,sizeOf,typeInfo,hi,<-hn,hl,hst]
theorem make_sheets(n:Nat)(hn:n<=1000)(W:World):
 (Instr.makeSlice 30 (.int .i64 n) (.int .i64 n)).run Tryz.prog W=.ok (.slice (some ⟨W.heap.size,0,none⟩) n n) (W.alloc (.cells (madeCells #[.int .i64 0,.int .i64 0] (n*2)) 37)):=by
 obtain⟨i0,hi,hz0,hz1,hz2⟩:=info_parts info_sheet
 have h:=run_make (P:=Tryz.prog) W 30 37 i0 (.agg #[.int .i64 0,.int .i64 0]) und_sheets hi hz0 .i64 .i64 n n (by omega) (Int.le_refl _) (by rw[hz2];omega) (by omega)
 rw[hz1]at h
 simpa[Value.cells]using h
theorem encS_get{xs:List Sh}{i:Nat}{x:Sh}(hx:xs[i]? =some x) {j:Nat} {u:Value} (hu:(encS x)[j]? =some u):(xs.flatMap encS)[i*2+j]? =some u:=by
 induction xs generalizing i with
 |nil=>cases hx
 |cons y xs ih=>
  have hj:j<2:=(List.getElem?_eq_some_iff.1 hu).1
  cases i with
  |zero=>
   simp only[List.getElem?_cons_zero,Option.some.injEq]at hx
   subst hx
   simp only[List.flatMap_cons,Nat.zero_mul,Nat.zero_add]
   rw[List.getElem?_append_left hj]
   exact hu
  |succ i=>
   simp only[List.flatMap_cons]
   rw[List.getElem?_append_right (by simp[encS];omega)]
   rw[show(i+1)*2+j-(encS y).length=i*2+j from by simp[encS];omega]
   exact ih (by simpa using hx)
theorem encS_len(xs:List Sh):(xs.flatMap encS).length=xs.length*2:=by
 induction xs with
 |nil=>rfl
 |cons x xs ih=>simp only[List.flatMap_cons,List.length_append,ih,List.length_cons];simp[encS];omega
set_option maxHeartbeats 1000000 in
theorem Cuts_ok(L:Nat)(FA:Option Addr)(fn fc:Nat)(fs:List Int)(KA:Option Addr)(kc:Nat)(ks:List Kd)(w:World)(hfs:Sl 1 encI w w.heap.size FA fn fc fs)(hks:Sl 3 encK w w.heap.size KA ks.length kc ks)(he:rkE L fs ks=0):
 Calls Tryz.prog 8 #[.agg #[.int .i64 L,.slice FA fn fc],.slice KA ks.length kc] w λe w'=>∃G,e=.returned (.tuple #[.slice (some ⟨G,0,none⟩) (firstAt L (Fst fs L) ks (behindAt L (Fst fs L) ks L) L 0).length (firstAt L (Fst fs L) ks (behindAt L (Fst fs L) ks L) L 0).length,.int .i64 0])/\Below w.heap.size w w'/\
  Sl 2 encS w' w'.heap.size (some ⟨G,0,none⟩) (firstAt L (Fst fs L) ks (behindAt L (Fst fs L) ks L) L 0).length (firstAt L (Fst fs L) ks (behindAt L (Fst fs L) ks L) L 0).length (firstAt L (Fst fs L) ks (behindAt L (Fst fs L) ks L) L 0):=by
 have ho:=Lib.hid (λW hb=>open_ok L FA fn fc fs KA kc ks W (hfs.later (w':=W) hb) (hks.later hb) he)
 clear hfs hks he
 have hfl:=λT W hT=>first_any T L FA fn fc KA kc fs ks W hT
 have hlen:=firstAt_len (L:=L) (F:=Fst fs L) (ks:=ks) (Bh:=behindAt L (Fst fs L) ks L) L 0
 generalize firstAt L (Fst fs L) ks (behindAt L (Fst fs L) ks L) L 0=xs at*
 have Hfl:=Lib.hid hfl
 clear hfl
 obtain⟨n,hn⟩:∃n,n=xs.length:=⟨_,rfl⟩
 rw[<-hn]at hlen ⊢
 have Hn:=Lib.hid hn
 clear hn
 go_enter Tryz.func8,Tryz.ntmps8
 go_wp2_with fail
 refine(ho.out _ (balloc (brefl w) _)).mono ?_
 rintro e w1⟨T,rfl,hb1,hT⟩
 have HB:=Lib.hid (Below.later (balloc (brefl w) _) hb1)
 have hl2:=hT.l2
 have HT:=Lib.hid hT
 clear hb1 hT
 go_wp2_with fail
 refine(Hfl.out T w1 HT.out).mono ?_
 rintro e w2⟨v,rfl,hb2,hown⟩
 have HB2:=Lib.hid (Below.later HB.out hb2)
 clear hb2
 rw[<-Hn.out]at hown
 have hmk:=make_sheets n (by omega)
 obtain⟨i0,hi,hz0,hz1,hz2⟩:=info_parts info_sheet
 have hblk:(w2.alloc (.cells (madeCells #[.int .i64 0,.int .i64 0] (n*2)) 37)).heap[w2.heap.size]? =some (.cells (madeCells #[.int .i64 0,.int .i64 0] (n*2)) 37 (0,0)):=World.alloc_heap_new w2 _
 have hxl:=encS_len xs
 rw[<-Hn.out]at hxl
 have hfin:∀W':World,W'.heap[w2.heap.size]? =some (.cells ((xs.flatMap encS)++(madeCells #[Value.int .i64 0,.int .i64 0] (n*2)).toList.drop (xs.flatMap encS).length).toArray 37 (0,0))->
  Sl 2 encS W' W'.heap.size (some ⟨w2.heap.size,0,none⟩) n n xs:=by
  intro W' hW
  refine⟨Hn.out.symm,Nat.le_refl _,by omega,λ_=>⟨w2.heap.size,0,rfl,(Array.getElem?_eq_some_iff.1 hW).1,λi x hx j u hu=>?_⟩⟩
  have h1:=encS_get hx hu
  have hlt:i*2+j<(xs.flatMap encS).length:=(List.getElem?_eq_some_iff.1 h1).1
  have h2:W'.cell? ⟨w2.heap.size,0+i*2+j,none⟩=((xs.flatMap encS)++(madeCells #[Value.int .i64 0,.int .i64 0] (n*2)).toList.drop (xs.flatMap encS).length).toArray[0+i*2+j]? :=by simp[World.cell?,hW]
  rw[h2,Nat.zero_add,List.getElem?_toArray,List.getElem?_append_left hlt]
  exact h1
 have hmin:Nat.min n n=n:=Nat.min_self n
 rcases hown.2 with⟨rfl,h0⟩|⟨g,cap,cur,rfl,hg0,hg,hcap,hmax,hsz,htake⟩
 ·subst h0
  have hmk0:∀W:World,(Instr.makeSlice 30 (.int .i64 0) (.int .i64 0)).run Tryz.prog W=.ok (.slice (some ⟨W.heap.size,0,none⟩) 0 0) (W.alloc (.cells #[] 37)):=λW=>by
   have h:=make_sheets 0 (by omega) W
   have h2:madeCells #[Value.int .i64 0,.int .i64 0] (0*2)=#[]:=by apply Array.eq_empty_of_size_eq_zero;simp[madeCells]
   rw[h2]at h
   exact h
  have hcp:=λty=>run_copy_nil (P:=Tryz.prog) (w2.alloc (.cells #[] 37)) 30 30 ty 37 ⟨w2.heap.size,0,none⟩ 0 0 und_sheets (by rw[hi];rfl)
  have hblk0:(w2.alloc (.cells #[] 37)).heap[w2.heap.size]? =some (.cells #[] 37 (0,0)):=World.alloc_heap_new w2 _
  have hx0:xs=[]:=List.length_eq_zero_iff.1 Hn.out.symm
  have HF:=Lib.hid (hfin _ (by rw[hblk0,hx0];simp[madeCells]))
  have HG:=Lib.hid (balloc HB2.out (.cells #[] 37))
  clear hfin hown hblk hxl hx0 hblk0 hmk
  go_wp2
  go_ret2
  exact⟨w2.heap.size,rfl,HG.out,HF.out⟩
 ·have hcp:=λty=>run_copy_any (P:=Tryz.prog) (w2.alloc (.cells (madeCells #[.int .i64 0,.int .i64 0] (n*2)) 37)) 30 30 ty 37 w2.heap.size n n ⟨g,0,none⟩ n cap _ _ (xs.flatMap encS) i0 und_sheets hi hblk (by rw[hz1,hmin];exact hxl)
   (λj u hu=>(hown.alloc _).cells rfl j u hu) (by rw[hxl];simp[madeCells]) (by
     intro u hu
     obtain⟨x,_,hx⟩:=List.mem_flatMap.1 hu
     simp[encS]at hx
     rcases hx with rfl|rfl<;>rfl)
  simp only[hmin]at hcp
  obtain⟨W3,hW3⟩:∃W3,(w2.alloc (.cells (madeCells #[.int .i64 0,.int .i64 0] (n*2)) 37)).setRow w2.heap.size ((xs.flatMap encS)++(madeCells #[Value.int .i64 0,.int .i64 0] (n*2)).toList.drop (xs.flatMap encS).length).toArray=W3:=⟨_,rfl⟩
  have hr3:W3.heap[w2.heap.size]? =some (.cells ((xs.flatMap encS)++(madeCells #[Value.int .i64 0,.int .i64 0] (n*2)).toList.drop (xs.flatMap encS).length).toArray 37 (0,0)):=by
   rw[<-hW3];rw[setRow_heap _ _ _ _ _ _ hblk]
  have hg3:Below w.heap.size w W3:=by
   rw[<-hW3];exact below_setRow (balloc HB2.out _) HB2.out.size _
  rw[hW3]at hcp
  have HF:=Lib.hid (hfin _ hr3)
  have HG:=Lib.hid hg3
  clear hfin hown hblk hxl hr3 hg3 hW3 htake hg
  go_wp2
  go_ret2
  exact⟨w2.heap.size,rfl,HG.out,HF.out⟩
end Go.Proofs.YtlclnbhjjdcnkaaGreatDoor.C
namespace Go.Proofs.YtlclnbhjjdcnkaaGreatDoor.C
open Go.RowKit Go.Shelf
end Go.Proofs.YtlclnbhjjdcnkaaGreatDoor.C
