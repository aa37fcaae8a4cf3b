/- Patch: the best ways to mend, in plain words: subsets that are gone through, the ways of all sets, the sets of the patches. -/
import Derived.Test.YtifehdoghfnhoaaGreatDoorZPbF
import Derived.Test.YtifehdoghfnhoaaGreatDoorZCMap
namespace Go.Proofs.YtifehdoghfnhoaaGreatDoor.Pa
open Go.RowKit Go.Shelf Go.Maps Go.Proofs.YtifehdoghfnhoaaGreatDoor.C
theorem keyed_set:Keyed Tryz.prog 156:=Keyed.of_law (deep_law (m:=4) (by omega) (by kernel_rfl) (by kernel_rfl) (by kernel_rfl))
theorem lits_set(n:Nat)(f:Int)(hf:(Lit.int .i64 f).wf=true):Tryz.prog.keyLits (n+1+1) 156 [.int .i64 f]=some [.int .i64 f]:=by
 have c1:Tryz.prog.cellsOf 156=1:=by kernel_rfl
 have c3:Tryz.prog.cellsOf 3=1:=by kernel_rfl
 conv=>lhs;unfold Program.keyLits
 simp only[Tryz.underlying156,c1,c3,lits_int Tryz.underlying3 n f hf,List.length_cons,List.length_nil,List.mapM_cons,List.mapM_nil,List.drop_zero,List.take_succ_cons,List.take_zero]
 rw[if_pos ⟨trivial,by kernel_rfl⟩]
 rfl
noncomputable def keyS(f:Nat):Lit:=.string (keyBytes [.int .i64 f])
theorem wf_1024(n:Nat)(h:n<1024):(Lit.int .i64 (n:Int)).wf=true:=by
 have h1:IntKind.i64.min=-9223372036854775808:=by decide
 have h2:IntKind.i64.max=9223372036854775807:=by decide
 simp[Lit.wf,h1,h2];omega
theorem keyS_of(f:Nat)(hf:f<1024):keyOf Tryz.prog 156 (.agg #[.int .i64 f])=some (keyS f):=by
 have h1:Tryz.prog.keyType 156=true:=by kernel_rfl
 have h2:∃n,Tryz.prog.types.size+1=n+1+1:=⟨Tryz.prog.types.size-1,by kernel_rfl⟩
 obtain⟨n,hn⟩:=h2
 have c1:Tryz.prog.cellsOf 156=1:=by kernel_rfl
 unfold keyOf
 rw[hn]
 simp only[Tryz.underlying156,h1,Value.formed,c1,Value.cells,lits_set n f (wf_1024 f hf)]
 rfl
theorem keyS_inj{f f':Nat}(hf:f<1024)(hf':f'<1024)(h:keyS f=keyS f'):f=f':=by
 have h1:=keyed_set.inj (keyS_of f hf) (h▸keyS_of f' hf')
 simp at h1
 omega
structure MapS(D:DM)(S:Nat->Prop)(wt:Nat->Nat):Prop where
 isMap:IsMap D
 yes:∀f,S f->has D (keyS f)=true/\∀z,D.atKey (keyS f) z=.lit (.int .i64 (wt f:Nat))
 only:∀z,has D z=true->∃f,z=keyS f/\S f
 small:∀f,S f->f<1024
section
variable{D:DM}{S S':Nat->Prop}{wt:Nat->Nat}
theorem MapS.empty(wt:Nat->Nat):MapS (.map []) (λ_=>False) wt:=⟨isMap_empty,λ_ h=>h.elim,λz h=>by simp[has]at h,λ_ h=>h.elim⟩
theorem MapS.congr(h:MapS D S wt)(hS:∀f,S f↔S' f):MapS D S' wt:=
 ⟨h.isMap,λf hs=>h.yes f ((hS f).2 hs),λz hz=>by obtain⟨f,e,hs⟩:=h.only z hz;exact⟨f,e,(hS f).1 hs⟩,λf hs=>h.small f ((hS f).2 hs)⟩
theorem MapS.put(h:MapS D S wt)(f:Nat)(hf:f<1024):MapS (D.put (keyS f) (.lit (.int .i64 (wt f:Nat)))) (λf'=>S f'\/f'=f) wt:=by
 have hkl:=keyed_set.key (keyS_of f hf)
 refine⟨h.isMap.put _ _,λf' hs=>?_,λz hz=>?_,λf' hs=>?_⟩
 ·by_cases e:f'=f
  ·subst e
   exact⟨has_put_same h.isMap hkl _,λz=>atKey_put_same h.isMap hkl _ _⟩
  ·have hs:=hs.resolve_right e
   have hsm:=h.small _ hs
   have hne:keyS f'≠keyS f:=λe'=>e (keyS_inj hsm hf e')
   rw[has_put_other hne]
   exact⟨(h.yes _ hs).1,λz=>by rw[atKey_put_other hne];exact(h.yes _ hs).2 z⟩
 ·by_cases e:z=keyS f
  ·exact⟨f,e,.inr rfl⟩
  ·rw[has_put_other e]at hz
   obtain⟨f',e',hs⟩:=h.only z hz
   exact⟨f',e',.inl hs⟩
 ·rcases hs with hs|rfl
  ·exact h.small _ hs
  ·exact hf
theorem MapS.del(h:MapS D S wt)(f:Nat)(hf:f<1024):MapS (D.del (keyS f)) (λf'=>S f'/\f'≠f) wt:=by
 refine⟨h.isMap.del _,λf' hs=>?_,λz hz=>?_,λf' hs=>h.small _ hs.1⟩
 ·obtain⟨hs,e⟩:=hs
  have hsm:=h.small _ hs
  have hne:keyS f'≠keyS f:=λe'=>e (keyS_inj hsm hf e')
  rw[has_del_other hne]
  exact⟨(h.yes _ hs).1,λz=>by rw[atKey_del_other hne];exact(h.yes _ hs).2 z⟩
 ·by_cases e:z=keyS f
  ·subst e;rw[has_del_same]at hz;cases hz
  ·rw[has_del_other e]at hz
   obtain⟨f',e',hs⟩:=h.only z hz
   refine⟨f',e',hs,?_⟩
   rintro rfl
   exact e e'
end
abbrev OwnsS(W:World)(b n:Nat)(D:DM):Prop:=W.ownsMap Tryz.prog 156 (plainElem Tryz.prog 3) b n D
abbrev RangesS(W:World)(b r n:Nat)(D:DM)(left:Lit->Bool)(cnt:Nat):Prop:=W.ranges Tryz.prog 156 (plainElem Tryz.prog 3) b r n D left cnt
theorem und_mset:Tryz.prog.underlying 152=some (.map 156 3):=by kernel_rfl
theorem und_int_:Tryz.prog.underlying 3=some (.int .i64):=by kernel_rfl
theorem elem_int(x:Int)(h:(Lit.int .i64 x).wf=true):plainElem (H:=Unit) Tryz.prog 3 (.int .i64 x)=some (.lit (.int .i64 x),[]):=plainElem_int und_int_ h
def wtN(p:BP)(sb:Nat):Nat:=(leastP p.ks sb).r*(leastP p.ks sb).c
structure UM(p:BP)(T:Nat)(w W:World)(M n:Nat)(S:Nat->Prop):Prop where
 bel:Below w.heap.size w W
 be:Be p T w
 own:∃D:DM,OwnsS W M n D/\MapS D S (wtN p)
 hM:w.heap.size<=M
section
variable{p:BP}{T M n:Nat}{w W W':World}{S S':Nat->Prop}
theorem UM.later(h:UM p T w W M n S)(hb:Below W.heap.size W W'):UM p T w W' M n S:=by
 obtain⟨D,h1,h2⟩:=h.own
 exact⟨Below.later h.bel hb,h.be,⟨D,h1.kept (grown_none hb) (by simp),h2⟩,h.hM⟩
theorem UM.put(h:UM p T w W M n S)(hn:n<1024)(f:Nat)(hf:f<1024)(hw:wtN p f<=36):
 ∃W',(Instr.mapUpdate 152 (.map (some M)) (.agg #[.int .i64 f]) (.int .i64 (wtN p f:Nat))).run Tryz.prog W=.ok () W'/\UM p T w W' M (n+1) (λf'=>S f'\/f'=f):=by
 obtain⟨D,h1,h2⟩:=h.own
 have hM:=h.hM
 obtain⟨W',hr,ho,hg⟩:=h1.update keyed_set und_mset (by simp only[maxLen];omega) (keyS_of f hf) (elem_int _ (wf_1024 (wtN p f) (by omega)))
 exact⟨W',hr,⟨h.bel.trans ⟨hg.os,hg.tape,hg.output,hg.size,λi hi=>hg.block i (by have:=h.bel.size;omega) (λe=>by simp at e;omega)⟩,h.be,⟨_,ho,h2.put f hf⟩,hM⟩⟩
end
structure UR(p:BP)(T:Nat)(w W:World)(M r:Nat)(D:DM)(left:Lit->Bool):Prop where
 bel:Below w.heap.size w W
 be:Be p T w
 is:MapS D (λf=>(0<f/\f<2^p.ks.length)/\(left (keyS f)=true\/lieN p f=0)) (wtN p)
 has:∀z,left z=true->has D z=true
 hM:w.heap.size<=M
 rl:w.heap.size<=r
 ne:M≠r
section
variable{p:BP}{T M r:Nat}{w W W':World}{D:DM}{left:Lit->Bool}
theorem UR.later(h:UR p T w W M r D left)(hb:Below W.heap.size W W'):UR p T w W' M r D left:=⟨Below.later h.bel hb,h.be,h.is,h.has,h.hM,h.rl,h.ne⟩
theorem UR.grown(h:UR p T w W M r D left)(hg:W.grownBy W' (some r)):UR p T w W' M r D left:=by
 have hrl:=h.rl
 exact⟨h.bel.trans ⟨hg.os,hg.tape,hg.output,hg.size,λi hi=>hg.block i (by have:=h.bel.size;omega) (λe=>by simp at e;omega)⟩,h.be,h.is,h.has,h.hM,hrl,h.ne⟩
theorem UR.stay(h:UR p T w W M r D left){f:Nat}(hs:lieN p f=0)(hf:f<1024):UR p T w W M r D (λz=>left z&&!z.sameKey (keyS f)):=by
 refine⟨h.bel,h.be,h.is.congr (λf'=>?_),λz hz=>h.has z (by simp at hz;exact hz.1),h.hM,h.rl,h.ne⟩
 by_cases e:f'=f
 ·subst e
  exact⟨λhh=>⟨hh.1,.inr hs⟩,λhh=>⟨hh.1,.inr hs⟩⟩
 ·constructor
  ·rintro⟨h0,h1⟩
   have hsm:=h.is.small f' ⟨h0,h1⟩
   refine⟨h0,h1.imp_left λh1=>?_⟩
   have hne:keyS f'≠keyS f:=λe'=>e (keyS_inj hsm hf e')
   simp[h1,sameKey_ne hne]
  ·rintro⟨h0,h1⟩
   exact⟨h0,h1.imp_left λh1=>by simp at h1;exact h1.1⟩
theorem UR.gone(h:UR p T w W M r D left)(hg:W.grownBy W' (some M)){f:Nat}(hs:lieN p f≠0)(hf:f<1024):UR p T w W' M r (D.del (keyS f)) (λz=>left z&&!z.sameKey (keyS f)):=by
 have hself:(keyS f).sameKey (keyS f)=true:=WideAt.sameKey_self (keyed_set.key (keyS_of f hf))
 have hM:=h.hM
 refine⟨h.bel.trans ⟨hg.os,hg.tape,hg.output,hg.size,λi hi=>hg.block i (by have:=h.bel.size;omega) (λe=>by simp at e;omega)⟩,h.be,(h.is.del f hf).congr (λf'=>?_),λz hz=>?_,hM,h.rl,h.ne⟩
 ·by_cases e:f'=f
  ·subst e
   constructor
   ·exactλhh=>absurd rfl hh.2
   ·rintro⟨h0,h1|h1⟩
    ·simp[hself]at h1
    ·exact absurd h1 hs
  ·constructor
   ·rintro⟨⟨h0,h1⟩,_⟩
    have hsm:=h.is.small f' ⟨h0,h1⟩
    refine⟨h0,h1.imp_left λh1=>?_⟩
    have hne:keyS f'≠keyS f:=λe'=>e (keyS_inj hsm hf e')
    simp[h1,sameKey_ne hne]
   ·rintro⟨h0,h1⟩
    exact⟨⟨h0,h1.imp_left λh1=>by simp at h1;exact h1.1⟩,e⟩
 ·simp at hz
  have hne:z≠keyS f:=λe=>by subst e;rw[hself]at hz;simp at hz
  rw[has_del_other hne]
  exact h.has z hz.1
end
theorem wtN_le{p:BP}{sb:Nat}(h0:0<sb)(hn:sb<2^p.ks.length)(h:∀x∈p.ks,x.1<=5/\x.2<=5):wtN p sb<=36:=by
 have h1:=(least_bd h0 hn h).1
 exact Nat.mul_le_mul h1.r6 h1.c6
set_option maxRecDepth 100000 in
set_option maxHeartbeats 8000000 in
theorem under_be(p:BP)(T:Nat)(w:World)(h:Be p T w):
 Calls Tryz.prog 103 #[.pointer (some ⟨T,0,none⟩)] w λe w'=>∃(M n:Nat)(D:DM),e=.returned (.map (some M))/\Below w.heap.size w w'/\w.heap.size<=M/\OwnsS w' M n D/\MapS D (λf=>(0<f/\f<2^p.ks.length)/\lieN p f=0) (wtN p):=by
 have n10:=h.n10
 have hk:=h.kn
 have hB:=balloc (brefl w) (.map #[] 0)
 have HU0:=Lib.hid (show UM p T w (w.alloc (.map #[] 0)) w.heap.size 0 (λf=>0<f/\f<1)from⟨hB,h,⟨.map [],World.ownsMap_made (H:=Unit) w Tryz.prog 156 (plainElem Tryz.prog 3),(MapS.empty (wtN p)).congr (λf=>⟨λhh=>hh.elim,λhh=>absurd hh (by omega)⟩)⟩,Nat.le_refl _⟩)
 have Hle:=Lib.hid (λW(hb:Below w.heap.size w W)sb h0 hn=>least_be p T sb W (h.later hb) h0 hn)
 have Hli:=Lib.hid (λW(hb:Below w.heap.size w W)sb h0 hn=>lies_be p T (leastP p.ks sb) W (h.later hb) (least_bd h0 hn h.bd).1)
 have Hwt:=Lib.hid (λsb h0 hn=>wtN_le (p:=p) (sb:=sb) h0 hn h.bd)
 have s1:=shl_i64 p.ks.length (by omega)
 have a1:=pow_le_1024 n10
 obtain⟨E,hE⟩:∃E,2^p.ks.length=E:=⟨_,rfl⟩
 have s2:((2:Int)^p.ks.length)=((2^p.ks.length:Nat):Int):=by simp
 rw[s2]at s1
 rw[hE]at s1 a1 s2
 have HE:=Lib.hid hE
 have hmm:=@run_makeMap Tryz.prog
 have Hk:=Lib.hid (λW(hb:Below w.heap.size w W)=>(And.intro ((hb.cell (p:=⟨T,2,none⟩) hk.lt).trans hk.c2) (Nat.lt_of_lt_of_le hk.lt hb.size)))
 have E1:1<=E:=by rw[<-hE];exact Nat.two_pow_pos _
 clear h hB hk hE
 go_enter Tryz.func103,Tryz.ntmps103
 go_wp2_with fail
 clear hmm
 refine lpn (λq a W=>a.defers=[]/\∃(i n:Nat),1<=i/\n<i/\i+q=E/\UM p T w W w.heap.size n (λf=>0<f/\f<i)/\Fits (some (.pointer (some ⟨T,0,none⟩))::none::none::some (.map (some w.heap.size))::some (.int .i64 (i:Nat))::none::none::none::none::none::none::none::none::none::none::none::none::none::none::none::none::none::none::none::none::none::none::none::none::none::none::none::none::none::none::none::none::none::none::none::none::none::none::none::none::[]) a.tmps.toList) (E-1) ?_ ?_
 ·refine⟨rfl,1,0,by omega,by omega,by omega,HU0.out,?_⟩
  repeat (first|exact ftL|refine ftN ?_|refine ftS ?_)
 clear HU0
 intro q a W hI K1 hK
 obtain⟨hds,i,n,h1,hni,hiq,hU,hfit⟩:=hI
 obtain⟨f',hf'⟩:=ftA hfit
 rw[hds]at hf'
 subst hf'
 clear hfit hds
 simp only[fillP,Nat.reduceAdd]
 have HU:=Lib.hid hU
 obtain⟨k0,k1⟩:=Hk.out W hU.bel
 clear hU
 by_cases hlt:i<E
 ·have i1:(i:Int)<(E:Int):=by omega
  have i3:IntKind.i64.wrap ((i:Int)+1)=((i+1:Nat):Int):=by rw[IntKind.wrap_i64];omega
  have Hi:=Lib.hid (show 1<=i/\n<i/\i+q=E/\i<E/\E<=1024 from⟨h1,hni,hiq,hlt,a1⟩)
  clear h1 hni hiq
  go_wp2_with fail
  refine(Hle.out W HU.out.bel i (by have:=Hi.out;omega) (by have:=Hi.out;rw[HE.out];omega)).mono ?_
  rintro e w1⟨rfl,hb1⟩
  have hw36:=Hwt.out i (by have:=Hi.out;omega) (by have:=Hi.out;rw[HE.out];omega)
  have hU1:=HU.out.later (Below.later hb1 (balloc (brefl _) (.cells (encPc (leastP p.ks i)).toArray 49)))
  obtain⟨W3,hrun,hU3⟩:=hU1.put (by have:=Hi.out;omega) i (by have:=Hi.out;omega) hw36
  have HU3:=Lib.hid hU3
  have hm1:IntKind.i64.wrap (((leastP p.ks i).r:Int)*((leastP p.ks i).c:Int))=((wtN p i:Nat):Int):=by
   rw[show(((leastP p.ks i).r:Int)*((leastP p.ks i).c:Int))=((wtN p i:Nat):Int)by simp[wtN],IntKind.wrap_i64]
   omega
  obtain⟨wt,hwt⟩:∃x,wtN p i=x:=⟨_,rfl⟩
  obtain⟨y,hy⟩:∃y,leastP p.ks i=y:=⟨_,rfl⟩
  have hev:(encPc y).toArray=#[.int .i64 (y.t:Nat),.int .i64 (y.l:Nat),.int .i64 (y.r:Nat),.int .i64 (y.c:Nat)]:=rfl
  rw[hwt]at hrun hm1
  rw[hy]at hrun hm1 ⊢
  rw[hev]at hrun ⊢
  clear hU1 hU3 hw36 hwt hy hev hb1 HU
  go_wp2_with fail
  obtain⟨j1,j2,j3,j4,j5⟩:=Hi.out
  have hU4:UM p T w W3 w.heap.size (n+1) (λf=>0<f/\f<i+1):=by
   obtain⟨D,d1,d2⟩:=HU3.out.own
   exact⟨HU3.out.bel,HU3.out.be,⟨D,d1,d2.congr (λf=>by constructor<;>intro hh<;>omega)⟩,HU3.out.hM⟩
  refine hK _ _ (q-1) (by omega) ⟨rfl,i+1,n+1,by omega,by omega,by omega,hU4,?_⟩
  repeat (first|exact ftL|refine ftN ?_|refine ftS ?_)
 ·obtain rfl:i=E:=by omega
  have HB:=Lib.hid HU.out.bel
  obtain⟨D0,hown0,hD0⟩:=HU.out.own
  have Hown0:=Lib.hid hown0
  have HD0:=Lib.hid hD0
  have hMlt:w.heap.size<W.heap.size:=by
   obtain⟨_,_,hb,_⟩:=hown0
   exact(Array.getElem?_eq_some_iff.1 hb).1
  have HMl:=Lib.hid hMlt
  clear hown0 hD0 hK hMlt h1 hni hiq
  go_wp2_with (at_range;refine wpList_range_own _ rfl _ 152 rfl 156 3 keyed_set und_mset _ w.heap.size n D0 rfl Hown0.out ?_;intro w0 hrg0 hg0 hs0)
  go_frame
  have HR0:=Lib.hid (show UR p T w w0 w.heap.size W.heap.size D0 (Maps.has D0)from by
   refine⟨HB.out.trans ⟨hg0.os,hg0.tape,hg0.output,hg0.size,λi hi=>hg0.block i (by have:=HB.out.size;omega) (λe=>by cases e)⟩,HU.out.be,HD0.out.congr (λf=>?_),λz h=>h,Nat.le_refl _,HB.out.size,Nat.ne_of_lt HMl.out⟩
   rw[HE.out]
   exact⟨λh=>⟨h,.inl (HD0.out.yes f h).1⟩,λh=>h.1⟩)
  have Hrg0:=Lib.hid hrg0
  obtain⟨r,hr⟩:∃r,W.heap.size=r:=⟨_,rfl⟩
  rw[hr]at HR0 Hrg0 ⊢
  clear hrg0 hg0 hs0 HU HB Hown0 HD0 HMl hr k0 k1
  clear W
  refine lpn (λm a W=>a.defers=[]/\∃(D:DM)(left:Lit->Bool)(cnt:Nat),cnt<=m/\UR p T w W w.heap.size r D left/\RangesS W w.heap.size r n D left cnt/\Fits (some (.pointer (some ⟨T,0,none⟩))::none::none::some (.map (some w.heap.size))::none::none::none::none::none::none::none::none::none::none::none::none::none::none::none::none::none::none::none::none::none::none::none::none::none::none::none::some (.pointer (some ⟨r,0,none⟩))::none::none::none::none::none::none::none::none::none::none::none::none::none::[]) a.tmps.toList) (Maps.size D0) ?_ ?_
  ·refine⟨rfl,D0,_,_,Nat.le_refl _,HR0.out,Hrg0.out,?_⟩
   repeat (first|exact ftL|refine ftN ?_|refine ftS ?_)
  clear HR0 Hrg0
  clear w0
  intro m a W hI K hK
  obtain⟨hds,D,left,cnt,hcm,hR,hrg,hfit⟩:=hI
  obtain⟨f,hf⟩:=ftA hfit
  rw[hds]at hf
  subst hf
  clear hfit hds
  simp only[fillP,Nat.reduceAdd]
  have HR:=Lib.hid hR
  have Hrg:=Lib.hid hrg
  clear hR hrg
  rcases Hrg.out.next keyed_set 0 with⟨hc0,hl0,hrun⟩|⟨x,c,kl,y,w1,cnt1,hkey,hlk,hv,hat,hrun,hrg1,hlt1,hgr,hsz,hen⟩
  ·have hown:=Hrg.out.owns
   have hD:MapS D (λf=>(0<f/\f<i)/\lieN p f=0) (wtN p):=HR.out.is.congr (λf=>by
    rw[hl0,HE.out]
    simp only[Bool.false_eq_true,false_or])
   have Hown:=Lib.hid hown
   have HD:=Lib.hid hD
   clear hc0 hl0 hown hD hK
   go_wp2_with fail
   go_ret
   refine⟨w.heap.size,n,D,rfl,HR.out.bel,Nat.le_refl _,Hown.out,?_⟩
   have h5:=HD.out
   rw[<-HE.out]at h5
   exact h5
  ·obtain⟨f',rfl,hS⟩:=HR.out.is.only kl (HR.out.has kl hlk)
   have hsm:=HR.out.is.small f' hS
   obtain rfl:x=.agg #[.int .i64 f']:=keyed_set.inj hkey (keyS_of f' hsm)
   obtain⟨cv,rfl,hy,hwf⟩:=plainElem_int_inv und_int_ hv
   obtain rfl:cv=(wtN p f':Nat):=by
    have h1:=(HR.out.is.yes f' hS).2 (.lit (.int .i64 0))
    rw[hat,hy]at h1
    simpa using h1
   have hR1:=HR.out.grown hgr
   have hb2:Below w.heap.size w (w1.alloc (.cells #[.int .i64 f'] 156)):=Below.later hR1.bel (balloc (brefl _) _)
   have Hle1:=Lib.hid (λW(hb:Below w.heap.size w W)=>Hle.out W hb f' hS.1.1 hS.1.2)
   have Hli1:=Lib.hid (λW(hb:Below w.heap.size w W)=>Hli.out W hb f' hS.1.1 hS.1.2)
   obtain⟨z,hz⟩:∃z,lieN p f'=z:=⟨_,rfl⟩
   have hz':=hz
   unfold lieN at hz'
   rw[hz']at Hli1
   have HZ:=Lib.hid hz
   have HR1:=Lib.hid hR1
   have Hrg1:=Lib.hid hrg1
   have HB2:=Lib.hid hb2
   have HS:=Lib.hid (Blk.new w1 156 #[.int .i64 f'])
   have hM0:w.heap.size<=w1.heap.size:=hR1.bel.size
   have HF:=Lib.hid hsm
   clear hkey hlk hv hat hgr hsz hS hy hwf hR1 hrg1 hb2 HR Hrg hz hz' hsm hM0 Hle Hli Hwt
   obtain⟨q,hq⟩:∃q,(encPc (leastP p.ks f')).toArray=q:=⟨_,rfl⟩
   rw[hq]at Hle1 Hli1
   clear hq
   go_wp2_with fail
   refine(Hle1.out _ HB2.out).mono ?_
   rintro e w2⟨rfl,hb2⟩
   have HB3:=Lib.hid (Below.later HB2.out hb2)
   have HC2:=Lib.hid (Below.later (balloc (brefl w1) _) hb2)
   have HS2:=Lib.hid (HS.out.later hb2)
   clear hb2 HB2 HS Hle1
   go_wp2_with fail
   refine(Hli1.out _ HB3.out).mono ?_
   rintro e w3⟨rfl,hb3⟩
   have HC3:=Lib.hid (Below.later HC2.out hb3)
   have hS3:=HS2.out.later hb3
   clear hb3 HB3 HC2 HS2 Hli1
   have HR3:=HR1.out.later HC3.out
   have hrg3:RangesS w3 w.heap.size r n D (λz=>left z&&!z.sameKey (keyS f')) cnt1:=Hrg1.out.kept (grown_none HC3.out) (by simp) (by simp)
   by_cases hz0:z=0
   ·subst hz0
    have HR4:=Lib.hid (HR3.stay HZ.out HF.out)
    have Hrg4:=Lib.hid hrg3
    clear hrg3 HR3 hS3 HR1 Hrg1 HC3
    go_wp2_with fail
    refine hK _ _ (m-1) (by omega) ⟨rfl,_,_,cnt1,by omega,HR4.out,Hrg4.out,?_⟩
    repeat (first|exact ftL|refine ftN ?_|refine ftS ?_)
   ·have z1:((z:Int) != 0)=true:=by simpa using hz0
    have z2:¬((z:Int)=0):=by omega
    have z3:((z:Int)==0)=false:=by simpa using hz0
    obtain⟨w',cnt',hrunD,hrg4,hle,hturn⟩:=hrg3.drop keyed_set und_mset (keyS_of f' HF.out) 0
    rw[Maps.strike_twice]at hrg4
    have HR4:=Lib.hid (HR3.gone hturn.grown (by rw[HZ.out];exact hz0) HF.out)
    have Hrg4:=Lib.hid hrg4
    have Hcm:=Lib.hid (show cnt'<=m-1/\m-1<m by omega)
    have l0:=hS3.cell 0
    have l1:=hS3.lt
    clear hrg3 HR3 HR1 Hrg1 HC3 hrg4 hle hturn hz0 hS3 hcm hlt1
    go_wp2_with fail
    refine hK _ _ (m-1) Hcm.out.2 ⟨rfl,_,_,cnt',Hcm.out.1,HR4.out,Hrg4.out,?_⟩
    repeat (first|exact ftL|refine ftN ?_|refine ftS ?_)
end Go.Proofs.YtifehdoghfnhoaaGreatDoor.Pa
namespace Go.Proofs.YtifehdoghfnhoaaGreatDoor.Pa
open Go.RowKit Go.Shelf Go.Proofs.YtifehdoghfnhoaaGreatDoor.C
structure Wy where
 m:Nat
 c:Nat
 f:Nat
def fewerB(a b:Wy):Bool:=Nat.blt a.m b.m||(Nat.beq a.m b.m&&Nat.blt a.c b.c)
def bestW(a b:Wy):Wy:=bif fewerB b a then b else a
theorem fewerB_is(a b:Wy):fewerB a b=(decide (a.m<b.m)||(decide (a.m=b.m)&&decide (a.c<b.c))):=by
 unfold fewerB
 rw[Bool.eq_iff_iff]
 simp
set_option maxHeartbeats 1000000 in
theorem fewer_ok(a b:Wy)(w:World):
 Calls Tryz.prog 105 #[.agg #[.int .i64 (a.m:Nat),.int .i64 (a.c:Nat),.int .i64 (a.f:Nat)],.agg #[.int .i64 (b.m:Nat),.int .i64 (b.c:Nat),.int .i64 (b.f:Nat)]] w λe w'=>e=.returned (.bool (fewerB a b))/\Below w.heap.size w w':=by
 have hB:=balloc (balloc (brefl w) (.cells #[.int .i64 (a.m:Nat),.int .i64 (a.c:Nat),.int .i64 (a.f:Nat)] 158)) (.cells #[.int .i64 (b.m:Nat),.int .i64 (b.c:Nat),.int .i64 (b.f:Nat)] 158)
 obtain⟨am,ac,af⟩:=a
 obtain⟨bm,bc,bf⟩:=b
 have HB:=Lib.hid hB
 clear hB
 obtain⟨r,hr⟩:∃r,fewerB ⟨am,ac,af⟩ ⟨bm,bc,bf⟩=r:=⟨_,rfl⟩
 rw[hr]
 rw[fewerB_is]at hr
 have HR:=Lib.hid hr
 clear hr
 go_enter Tryz.func105,Tryz.ntmps105
 go_wp2_with fail
 ·have h1:bm<=am:=by assumption
  go_ret
  exact⟨rtB (by rw[<-HR.out,show am=bm by omega];simp),balloc (balloc (brefl w) _) _⟩
 ·have h1:bm<=am:=by assumption
  have h2:¬((am:Int)=(bm:Int)):=by assumption
  go_ret
  exact⟨rtB (by rw[<-HR.out];simp[show¬am=bm by omega]),HB.out⟩
 ·have h1:¬(bm<=am):=by assumption
  go_ret
  exact⟨rtB (by rw[<-HR.out];simp[show am<bm by omega]),HB.out⟩
structure BW(w W:World)(x:Wy):Prop where
 bel:Below w.heap.size w W
 r0:Blk W w.heap.size 158 #[.int .i64 0,.int .i64 0,.int .i64 0]
 o:Blk W (w.heap.size+1) 158 #[.int .i64 (x.m:Nat),.int .i64 (x.c:Nat),.int .i64 (x.f:Nat)]
theorem BW.later{w W W':World}{x:Wy}(h:BW w W x)(hb:Below W.heap.size W W'):BW w W' x:=⟨Below.later h.bel hb,h.r0.later hb,h.o.later hb⟩
theorem BW.cells{w W:World}{x:Wy}(h:BW w W x):W.cell? ⟨w.heap.size+1,0,none⟩=some (.int .i64 (x.m:Nat))/\W.cell? ⟨w.heap.size+1,1,none⟩=some (.int .i64 (x.c:Nat))/\W.cell? ⟨w.heap.size+1,2,none⟩=some (.int .i64 (x.f:Nat))/\w.heap.size+1<W.heap.size:=⟨h.o.cell 0,h.o.cell 1,h.o.cell 2,h.o.lt⟩
theorem BW.put{w W:World}{x:Wy}(h:BW w W x)(y:Wy):BW w (((W.setCell ⟨w.heap.size+1,0,none⟩ (.int .i64 (y.m:Nat))).setCell ⟨w.heap.size+1,1,none⟩ (.int .i64 (y.c:Nat))).setCell ⟨w.heap.size+1,2,none⟩ (.int .i64 (y.f:Nat))) y:=
 ⟨((h.bel.setCell (p:=⟨w.heap.size+1,0,none⟩) (by simp) _).setCell (p:=⟨w.heap.size+1,1,none⟩) (by simp) _).setCell (p:=⟨w.heap.size+1,2,none⟩) (by simp) _,((h.r0.other (by simp) _).other (by simp) _).other (by simp) _,((h.o.set 0 _).set 1 _).set 2 _⟩
set_option maxRecDepth 100000 in
set_option maxHeartbeats 4000000 in
theorem best_two(g:Nat)(x y:Wy)(w:World)(hx:Blk w g 158 #[.int .i64 (x.m:Nat),.int .i64 (x.c:Nat),.int .i64 (x.f:Nat),.int .i64 (y.m:Nat),.int .i64 (y.c:Nat),.int .i64 (y.f:Nat)]):
 Calls Tryz.prog 104 #[.slice (some ⟨g,0,none⟩) 2 2,.func (.func 105) #[] #[]] w λe w'=>e=.returned (.agg #[.int .i64 ((bestW x y).m:Nat),.int .i64 ((bestW x y).c:Nat),.int .i64 ((bestW x y).f:Nat)])/\Below w.heap.size w w':=by
 have c0:=hx.cell 0
 have c1:=hx.cell 1
 have c2:=hx.cell 2
 have gl:=hx.lt
 have HX:=Lib.hid hx
 have hB:=balloc (brefl w) (.cells #[.int .i64 0,.int .i64 0,.int .i64 0] 158)
 have hB1:=balloc hB (.cells #[.int .i64 (x.m:Nat),.int .i64 (x.c:Nat),.int .i64 (x.f:Nat)] 158)
 have hN:=Blk.new (w.alloc (.cells #[.int .i64 0,.int .i64 0,.int .i64 0] 158)) 158 #[.int .i64 (x.m:Nat),.int .i64 (x.c:Nat),.int .i64 (x.f:Nat)]
 rw[World.size_alloc]at hN
 have HW0:=Lib.hid (show BW w _ x from⟨hB1,(Blk.new w _ _).alloc _,hN⟩)
 have HXl:=Lib.hid (λW(h:Below w.heap.size w W)=>And.intro ((h.cell (p:=⟨g,3,none⟩) gl).trans (hx.cell 3)) (And.intro ((h.cell (p:=⟨g,4,none⟩) gl).trans (hx.cell 4)) (And.intro ((h.cell (p:=⟨g,5,none⟩) gl).trans (hx.cell 5)) (Nat.lt_of_lt_of_le gl h.size))))
 clear hB hB1 hN hx
 go_enter Tryz.func104,Tryz.ntmps104
 go_wp2_with fail
 refine lpn (λq a W=>a.defers=[]/\∃(i:Nat),i+q=1/\BW w W (if i=0 then x else bestW x y)/\Fits (some (.slice (some ⟨g,0,none⟩) 2 2)::some (.func (.func 105) #[] #[])::none::none::some (.pointer (some ⟨w.heap.size,0,none⟩))::some (.pointer (some ⟨w.heap.size+1,0,none⟩))::none::none::none::none::none::none::some (.slice (some ⟨g,3,none⟩) 1 1)::some (.int .i64 1)::some (.int .i64 (i:Nat))::none::none::none::none::none::none::none::none::none::none::[]) a.tmps.toList) 1 ?_ ?_
 ·refine⟨rfl,0,by omega,HW0.out,?_⟩
  repeat (first|exact ftL|refine ftN ?_|refine ftS ?_)
 clear HW0 c0 c1 c2 HX
 intro q a W hI K1 hK
 obtain⟨hds,i,hiq,hW,hfit⟩:=hI
 obtain⟨f',hf'⟩:=ftA hfit
 rw[hds]at hf'
 subst hf'
 clear hfit hds
 simp only[fillP,Nat.reduceAdd]
 by_cases hi:i=0
 ·subst hi
  rw[if_pos rfl]at hW
  have HW:=Lib.hid hW
  obtain⟨x0,x1,x2,xl⟩:=hW.cells
  obtain⟨y0,y1,y2,yl⟩:=HXl.out W hW.bel
  have HG:=Lib.hid (balloc (brefl W) (.cells #[.int .i64 (y.m:Nat),.int .i64 (y.c:Nat),.int .i64 (y.f:Nat)] 158))
  have HN:=Lib.hid (Blk.new W 158 #[.int .i64 (y.m:Nat),.int .i64 (y.c:Nat),.int .i64 (y.f:Nat)])
  clear hW
  go_wp2_with fail
  refine(fewer_ok y x _).mono ?_
  rintro e w1⟨rfl,hb1⟩
  have HW1:=Lib.hid (HW.out.later (Below.later HG.out hb1))
  have hN1:=HN.out.later hb1
  have z0:=hN1.cell 0
  have z1:=hN1.cell 1
  have z2:=hN1.cell 2
  have zl:=hN1.lt
  clear hb1 HW HG HN hN1 x0 x1 x2 xl y0 y1 y2 yl
  obtain⟨x0,x1,x2,xl⟩:=HW1.out.cells
  have f0:=HW1.out.o.frozen 0
  have f1:=HW1.out.o.frozen 1
  have f2:=HW1.out.o.frozen 2
  cases hb:fewerB y x with
  |true=>
   have hv:bestW x y=y:=by unfold bestW;rw[hb];rfl
   have HV:=Lib.hid hv
   clear hv hb
   go_wp2_with fail
   refine hK _ _ 0 (by omega) ⟨rfl,1,by omega,by rw[HV.out];exact HW1.out.put y,?_⟩
   repeat (first|exact ftL|refine ftN ?_|refine ftS ?_)
  |false=>
   have hv:bestW x y=x:=by unfold bestW;rw[hb];rfl
   have HV:=Lib.hid hv
   clear hv hb
   go_wp2_with fail
   refine hK _ _ 0 (by omega) ⟨rfl,1,by omega,by rw[HV.out];exact HW1.out,?_⟩
   repeat (first|exact ftL|refine ftN ?_|refine ftS ?_)
 ·obtain rfl:i=1:=by omega
  rw[if_neg hi]at hW
  have HW:=Lib.hid hW
  obtain⟨x0,x1,x2,xl⟩:=hW.cells
  have f0:=hW.r0.frozen 0
  have f1:=hW.r0.frozen 1
  have f2:=hW.r0.frozen 2
  have z0:=hW.r0.cell 0
  have z1:=hW.r0.cell 1
  have z2:=hW.r0.cell 2
  have zl:=hW.r0.lt
  clear hW hK hi
  obtain⟨r,hr⟩:∃r,bestW x y=r:=⟨_,rfl⟩
  rw[hr]at HW x0 x1 x2
  have HRr:=Lib.hid hr
  clear hr
  go_wp2_with fail
  have hz:=((HW.out.r0.set 0 (.int .i64 (r.m:Nat))).set 1 (.int .i64 (r.c:Nat))).set 2 (.int .i64 (r.f:Nat))
  have w0:=hz.cell 0
  have w1:=hz.cell 1
  have w2:=hz.cell 2
  have hbe:=((HW.out.bel.setCell (p:=⟨w.heap.size,0,none⟩) (Nat.le_refl _) (.int .i64 (r.m:Nat))).setCell (p:=⟨w.heap.size,1,none⟩) (Nat.le_refl _) (.int .i64 (r.c:Nat))).setCell (p:=⟨w.heap.size,2,none⟩) (Nat.le_refl _) (.int .i64 (r.f:Nat))
  rw[HRr.out]
  refine bodyPost_ret (v:=.agg #[.int .i64 (r.m:Nat),.int .i64 (r.c:Nat),.int .i64 (r.f:Nat)]) ?_ rfl ⟨rfl,hbe⟩
  simp[results,Tryz.results104,go_sem,w0,w1,w2]
end Go.Proofs.YtifehdoghfnhoaaGreatDoor.Pa
namespace Go.Proofs.YtifehdoghfnhoaaGreatDoor.Pa
open Go.RowKit
def lowN(b:Nat):Nat:=b^^^(b &&& (b-1))
def restN(b f:Nat):Nat:=b^^^(b &&& f)
def pc10(b:Nat):Nat:=b % 2+(b / 2 % 2+(b / 4 % 2+(b / 8 % 2+(b / 16 % 2+(b / 32 % 2+(b / 64 % 2+(b / 128 % 2+(b / 256 % 2+b / 512 % 2))))))))
def lastS(b:Nat):Nat->Nat->Nat
 |0,part=>part
 |k+1,part=>bif Nat.beq ((part-1) &&& b) 0 then part else lastS b k ((part-1) &&& b)
def chkB(b:Nat):Bool:=
 Nat.ble 1 (lowN b)&&(Nat.beq (lowN b &&& b) (lowN b)&&(Nat.beq (pc10 (restN b (lowN b))+1) (pc10 b)&&(Nat.beq (2^Nat.log2 (lowN b)) (lowN b)&&(Nat.ble (2^pc10 b) (b+1)&&(Nat.beq (lastS b b b) (lowN b)&&Nat.ble (pc10 b) 10)))))
def allB:Nat->Bool
 |0=>true
 |k+1=>chkB (k+1)&&allB k
theorem allB_is:∀{k b:Nat},allB k=true->0<b->b<=k->chkB b=true
 |0,b,_,h0,hb=>by omega
 |k+1,b,h,h0,hb=>by
  have h':chkB (k+1)=true/\allB k=true:=by simpa[allB]using h
  by_cases e:b=k+1
  ·rw[e];exact h'.1
  ·exact allB_is h'.2 h0 (by omega)
theorem all_1023:allB 1023=true:=by kernel_rfl
structure BitsOk(b:Nat):Prop where
 l0:0<lowN b
 sub:lowN b &&& b=lowN b
 pc:pc10 (restN b (lowN b))+1=pc10 b
 pow:2^Nat.log2 (lowN b)=lowN b
 le:2^pc10 b<=b+1
 last:lastS b b b=lowN b
 p10:pc10 b<=10
theorem bits_ok{b:Nat}(h0:0<b)(hb:b<1024):BitsOk b:=by
 have h:=allB_is all_1023 h0 (show b<=1023 by omega)
 simp only[chkB,Bool.and_eq_true,Nat.ble_eq,Nat.beq_eq]at h
 obtain⟨h1,h2,h3,h4,h5,h6,h7⟩:=h
 exact⟨h1,h2,h3,h4,h5,h6,h7⟩
theorem pc_le{b n:Nat}(hb:b<2^n)(hn:n<=10):pc10 b<=n:=by
 by_cases h0:0<b
 ·have h1:b<1024:=Nat.lt_of_lt_of_le hb (Nat.pow_le_pow_right (n:=2) (by omega) hn)
  have h2:=(bits_ok h0 h1).le
  exact(Nat.pow_le_pow_iff_right (a:=2) (by omega)).1 (show 2^pc10 b<=2^n by omega)
 ·have:b=0:=by omega
  subst this
  exact Nat.zero_le _
theorem pc_bits(b:Nat):pc10 b=(b.testBit 0).toNat+((b.testBit 1).toNat+((b.testBit 2).toNat+((b.testBit 3).toNat+((b.testBit 4).toNat+((b.testBit 5).toNat+((b.testBit 6).toNat+((b.testBit 7).toNat+((b.testBit 8).toNat+(b.testBit 9).toNat)))))))):=by
 simp only[Nat.toNat_testBit]
 simp[pc10]
theorem pc_rest{b f:Nat}(h:f &&& b=f):pc10 (restN b f)+pc10 f=pc10 b:=by
 have hb:∀i,((restN b f).testBit i).toNat+(f.testBit i).toNat=(b.testBit i).toNat:=by
  intro i
  have h1:f.testBit i=(f.testBit i&&b.testBit i):=by
   conv=>lhs;rw[<-h]
   exact Nat.testBit_and f b i
  rw[restN,Nat.testBit_xor,Nat.testBit_and]
  cases hf:f.testBit i<;>cases hbb:b.testBit i<;>simp[hf,hbb]at h1 ⊢
 simp only[pc_bits]
 have h0:=hb 0
 have h1:=hb 1
 have h2:=hb 2
 have h3:=hb 3
 have h4:=hb 4
 have h5:=hb 5
 have h6:=hb 6
 have h7:=hb 7
 have h8:=hb 8
 have h9:=hb 9
 omega
theorem rest_sub(b f:Nat):restN b f &&& b=restN b f:=by
 refine Nat.eq_of_testBit_eq λi=>?_
 rw[restN,Nat.testBit_and,Nat.testBit_xor,Nat.testBit_and]
 cases b.testBit i<;>cases f.testBit i<;>rfl
theorem sub_le{b f:Nat}(h:f &&& b=f):f<=b:=by rw[<-h];exact Nat.and_le_right
theorem rest_lt{b f:Nat}(h:f &&& b=f)(h0:0<f):restN b f<b:=by
 have h1:=sub_le (rest_sub b f)
 refine Nat.lt_of_le_of_ne h1 λe=>?_
 obtain⟨i,hi⟩:=Nat.exists_testBit_of_ne_zero (x:=f) (by omega)
 have h2:f.testBit i=(f.testBit i&&b.testBit i):=by
  conv=>lhs;rw[<-h]
  exact Nat.testBit_and f b i
 have h3:(restN b f).testBit i=b.testBit i:=by rw[e]
 rw[restN,Nat.testBit_xor,Nat.testBit_and]at h3
 rw[hi]at h2 h3
 revert h2 h3
 cases b.testBit i<;>simp
theorem next_sub(b part:Nat):((part-1) &&& b) &&& b=(part-1) &&& b:=by rw[Nat.and_assoc,Nat.and_self]
theorem next_lt{b part:Nat}(h:0<part):(part-1) &&& b<part:=Nat.lt_of_le_of_lt Nat.and_le_left (by omega)
structure WyOk(lies:Nat->Bool)(b:Nat)(x:Wy):Prop where
 f0:0<x.f
 sub:x.f &&& b=x.f
 li:lies x.f=true
 m:x.m<=pc10 b
 c:x.c<=36*x.m
def LeftOk(b:Nat)(x:Wy):Prop:=x.m<=pc10 b/\x.c<=36*x.m
def CurOk(lies:Nat->Bool)(n b:Nat)(x:Wy):Prop:=x.m<=n+1/\x.c<=36*x.m/\((x.f=0/\x.m=n+1)\/(0<x.f/\x.f &&& b=x.f/\lies x.f=true))
section
variable(lies:Nat->Bool)(wt:Nat->Nat)
def useB(bits part:Nat):Bool:=!(Nat.beq (part &&& lowN bits) 0)&&lies part
def nextW(W:Nat->Wy)(bits part:Nat):Wy:=⟨(W (restN bits part)).m+1,(W (restN bits part)).c+wt part,part⟩
def stepW(W:Nat->Wy)(bits part:Nat)(c:Wy):Wy:=bif useB lies bits part then bestW c (nextW wt W bits part)else c
def goW(W:Nat->Wy)(bits:Nat):Nat->Nat->Wy->Wy
 |0,_,c=>c
 |k+1,part,c=>bif Nat.beq part 0 then c else goW W bits k ((part-1) &&& bits) (stepW lies wt W bits part c)
def zW:Wy:=⟨0,0,0⟩
def getW(l:List Wy)(b:Nat):Wy:=l.getD b zW
def waysL(n:Nat):Nat->List Wy
 |0=>[zW]
 |k+1=>waysL n k++[goW lies wt (getW (waysL n k)) (k+1) (k+1) (k+1) ⟨n+1,0,0⟩]
def outW(l:List Wy):Nat->Nat->List Nat
 |0,_=>[]
 |k+1,bits=>bif Nat.beq bits 0 then []else(getW l bits).f::outW l k (restN bits (getW l bits).f)
def mendL(n:Nat):List Nat:=outW (waysL lies wt n (2^n-1)) (2^n) (2^n-1)
end
theorem fewer_not{a b:Wy}(h:fewerB a b=false):b.m<=a.m:=by
 rw[fewerB_is]at h
 simp at h
 omega
section
variable{lies:Nat->Bool}{wt:Nat->Nat}{n b:Nat}{W:Nat->Wy}{c:Wy}{part:Nat}
theorem nextW_bd(hw:wt part<=36)(hr:LeftOk (restN b part) (W (restN b part)))(hn:pc10 (restN b part)<=n):(nextW wt W b part).m<=n+1/\(nextW wt W b part).c<=36*(nextW wt W b part).m:=by
 obtain⟨h1,h2⟩:=hr
 simp only[nextW]
 omega
theorem stepW_ok(h0:0<part)(hs:part &&& b=part)(hw:wt part<=36)(hr:LeftOk (restN b part) (W (restN b part)))(hn:pc10 (restN b part)<=n)(hc:CurOk lies n b c):CurOk lies n b (stepW lies wt W b part c):=by
 unfold stepW
 cases hu:useB lies b part with
 |false=>exact hc
 |true=>
  obtain⟨h1,h2⟩:=nextW_bd (wt:=wt) hw hr hn
  have hli:lies part=true:=by
   simp[useB]at hu
   exact hu.2
  show CurOk lies n b (bestW c (nextW wt W b part))
  unfold bestW
  cases hf:fewerB (nextW wt W b part) c with
  |false=>exact hc
  |true=>exact⟨h1,h2,.inr ⟨h0,hs,hli⟩⟩
theorem stepW_last(hb:BitsOk b)(hp:part=lowN b)(hli:lies (lowN b)=true)(hw:wt part<=36)(hr:LeftOk (restN b part) (W (restN b part)))(hn:pc10 b<=n)(hc:CurOk lies n b c):WyOk lies b (stepW lies wt W b part c):=by
 subst hp
 have hpc:=hb.pc
 have hst:=stepW_ok (lies:=lies) hb.l0 hb.sub hw hr (by omega) hc
 have hu:useB lies b (lowN b)=true:=by
  have h1:(lowN b &&& lowN b)=lowN b:=Nat.and_self _
  have h2:Nat.beq (lowN b) 0=false:=by
   have h3:=hb.l0
   cases hh:Nat.beq (lowN b) 0 with
   |false=>rfl
   |true=>
    have:=Nat.eq_of_beq_eq_true hh
    omega
  rw[useB,h1,h2,hli]
  rfl
 have hm:(stepW lies wt W b (lowN b) c).m<=pc10 b:=by
  have h3:(nextW wt W b (lowN b)).m<=pc10 b:=by
   obtain⟨h4,_⟩:=hr
   simp only[nextW]
   omega
  unfold stepW
  rw[hu]
  show(bestW c (nextW wt W b (lowN b))).m<=pc10 b
  unfold bestW
  cases hf:fewerB (nextW wt W b (lowN b)) c with
  |false=>
   have h5:=fewer_not hf
   show c.m<=_
   omega
  |true=>exact h3
 obtain⟨h1,h2,h3⟩:=hst
 rcases h3 with⟨_,h3⟩|⟨h3,h4,h5⟩
 ·rw[h3]at hm
  omega
 ·exact⟨h3,h4,h5,hm,h2⟩
theorem goW_ok(hb:BitsOk b)(hli:lies (lowN b)=true)(hw:∀f,0<f->f &&& b=f->wt f<=36)(hr:∀f,f<b->LeftOk f (W f))(hn:pc10 b<=n):∀(k part:Nat)(c:Wy),part<=k->0<part->part &&& b=part->CurOk lies n b c->lastS b k part=lowN b->WyOk lies b (goW lies wt W b k part c)
 |0,part,c,hk,h0,_,_,_=>by omega
 |k+1,part,c,hk,h0,hs,hc,hl=>by
  have hlt:=next_lt (b:=b) h0
  have hr':=hr _ (rest_lt hs h0)
  have hpr:=pc_rest hs
  have e:goW lies wt W b (k+1) part c=goW lies wt W b k ((part-1) &&& b) (stepW lies wt W b part c):=by
   have:Nat.beq part 0=false:=by
    cases part with
    |zero=>omega
    |succ p=>rfl
   simp only[goW,this,cond_false]
  rw[e]
  unfold lastS at hl
  by_cases hq:(part-1) &&& b=0
  ·rw[hq]at hl ⊢
   have hl:part=lowN b:=hl
   have e2:goW lies wt W b k 0 (stepW lies wt W b part c)=stepW lies wt W b part c:=by
    cases k with
    |zero=>rfl
    |succ k=>rfl
   rw[e2]
   exact stepW_last hb hl hli (hw _ h0 hs) hr' hn hc
  ·have hqb:Nat.beq ((part-1) &&& b) 0=false:=by
    cases hh:Nat.beq ((part-1) &&& b) 0 with
    |false=>rfl
    |true=>exact absurd (Nat.eq_of_beq_eq_true hh) hq
   rw[hqb]at hl
   exact goW_ok hb hli hw hr hn k _ _ (by omega) (by omega) (next_sub b part) (stepW_ok h0 hs (hw _ h0 hs) hr' (by omega) hc) hl
theorem goW_next(h0:0<part){k:Nat}:goW lies wt W b (k+1) part c=goW lies wt W b k ((part-1) &&& b) (stepW lies wt W b part c):=by
 have:Nat.beq part 0=false:=by
  cases part with
  |zero=>omega
  |succ p=>rfl
 simp only[goW,this,cond_false]
theorem goW_zero(k:Nat):goW lies wt W b k 0 c=c:=by
 cases k with
 |zero=>rfl
 |succ k=>rfl
end
theorem waysL_len(lies:Nat->Bool)(wt:Nat->Nat)(n k:Nat):(waysL lies wt n k).length=k+1:=by
 induction k with
 |zero=>rfl
 |succ k ih=>simp[waysL,ih]
theorem getW_old{lies:Nat->Bool}{wt:Nat->Nat}{n k b:Nat}(h:b<=k):getW (waysL lies wt n (k+1)) b=getW (waysL lies wt n k) b:=by
 have:=waysL_len lies wt n k
 unfold getW
 rw[waysL,List.getD_eq_getElem?_getD,List.getElem?_append_left (by omega),List.getD_eq_getElem?_getD]
theorem getW_new{lies:Nat->Bool}{wt:Nat->Nat}{n k:Nat}:getW (waysL lies wt n (k+1)) (k+1)=goW lies wt (getW (waysL lies wt n k)) (k+1) (k+1) (k+1) ⟨n+1,0,0⟩:=by
 have:=waysL_len lies wt n k
 unfold getW
 rw[waysL,List.getD_eq_getElem?_getD,List.getElem?_append_right (by omega),this,Nat.sub_self]
 rfl
theorem getW_past{lies:Nat->Bool}{wt:Nat->Nat}{n k b:Nat}(h:k<b):getW (waysL lies wt n k) b=zW:=by
 have:=waysL_len lies wt n k
 unfold getW
 rw[List.getD_eq_getElem?_getD,List.getElem?_eq_none (by omega)]
 rfl
theorem getW_zero(lies:Nat->Bool)(wt:Nat->Nat)(n k:Nat):getW (waysL lies wt n k) 0=zW:=by
 induction k with
 |zero=>rfl
 |succ k ih=>rw[getW_old (by omega),ih]
def Singles(lies:Nat->Bool)(n:Nat):Prop:=∀i,i<n->lies (2^i)=true
theorem low_lies{lies:Nat->Bool}{n b:Nat}(hs:Singles lies n)(hn:n<=10)(h0:0<b)(hb:b<2^n):lies (lowN b)=true:=by
 have hb':b<1024:=Nat.lt_of_lt_of_le hb (Nat.pow_le_pow_right (n:=2) (by omega) hn)
 have hk:=bits_ok h0 hb'
 rw[<-hk.pow]
 refine hs _ ?_
 have h1:=sub_le hk.sub
 rw[<-hk.pow]at h1
 exact(Nat.pow_lt_pow_iff_right (a:=2) (by omega)).1 (show 2^Nat.log2 (lowN b)<2^n by omega)
theorem ways_ok{lies:Nat->Bool}{wt:Nat->Nat}{n:Nat}(hs:Singles lies n)(hn:n<=10)(hw:∀f,0<f->f<2^n->wt f<=36):∀k,k<2^n->∀b,0<b->b<=k->WyOk lies b (getW (waysL lies wt n k) b)
 |0,_,b,h0,hb=>by omega
 |k+1,hk,b,h0,hb=>by
  by_cases e:b=k+1
  ·subst e
   rw[getW_new]
   have hb':k+1<1024:=Nat.lt_of_lt_of_le hk (Nat.pow_le_pow_right (n:=2) (by omega) hn)
   have hB:=bits_ok h0 hb'
   refine goW_ok hB (low_lies hs hn h0 hk) (λf hf hff=>hw f hf (Nat.lt_of_le_of_lt (sub_le hff) hk)) (λf hf=>?_) (pc_le hk hn) _ _ _ (Nat.le_refl _) h0 (Nat.and_self _) ⟨Nat.le_refl _,Nat.zero_le _,.inl ⟨rfl,rfl⟩⟩ hB.last
   by_cases hf0:0<f
   ·have:=ways_ok hs hn hw k (by omega) f hf0 (by omega)
    exact⟨this.m,this.c⟩
   ·obtain rfl:f=0:=by omega
    rw[getW_zero]
    exact⟨Nat.zero_le _,Nat.zero_le _⟩
  ·rw[getW_old (by omega)]
   exact ways_ok hs hn hw k (by omega) b h0 (by omega)
theorem left_ok{lies:Nat->Bool}{wt:Nat->Nat}{n:Nat}(hs:Singles lies n)(hn:n<=10)(hw:∀f,0<f->f<2^n->wt f<=36){k b:Nat}(hk:k<2^n)(hb:b<=k):LeftOk b (getW (waysL lies wt n k) b):=by
 by_cases h0:0<b
 ·have:=ways_ok hs hn hw k hk b h0 hb
  exact⟨this.m,this.c⟩
 ·obtain rfl:b=0:=by omega
  rw[getW_zero]
  exact⟨Nat.zero_le _,Nat.zero_le _⟩
theorem out_ok{lies:Nat->Bool}{wt:Nat->Nat}{n:Nat}(hs:Singles lies n)(hn:n<=10)(hw:∀f,0<f->f<2^n->wt f<=36):∀k b,b<=k->b<2^n->(∀f∈outW (waysL lies wt n (2^n-1)) k b,0<f/\f &&& b=f/\lies f=true)/\((outW (waysL lies wt n (2^n-1)) k b).map pc10).sum=pc10 b/\(outW (waysL lies wt n (2^n-1)) k b).Pairwise (λf g=>f &&& g=0)
 |0,b,hk,hb=>by
  obtain rfl:b=0:=by omega
  exact⟨λf hf=>(by cases hf),rfl,List.Pairwise.nil⟩
 |k+1,b,hk,hb=>by
  unfold outW
  by_cases h0:b=0
  ·subst h0
   exact⟨λf hf=>(by cases hf),rfl,List.Pairwise.nil⟩
  ·have hq:Nat.beq b 0=false:=by
    cases b with
    |zero=>exact absurd rfl h0
    |succ p=>rfl
   rw[hq,cond_false]
   have hok:=ways_ok hs hn hw (2^n-1) (by omega) b (by omega) (by omega)
   have hlt:=rest_lt hok.sub hok.f0
   obtain⟨i1,i2,i3⟩:=out_ok hs hn hw k (restN b (getW (waysL lies wt n (2^n-1)) b).f) (by omega) (by omega)
   refine⟨λf hf=>?_,?_,List.pairwise_cons.2 ⟨λg hg=>?_,i3⟩⟩
   ·rcases List.mem_cons.1 hf with rfl|hf
    ·exact⟨hok.f0,hok.sub,hok.li⟩
    ·obtain⟨h1,h2,h3⟩:=i1 f hf
     refine⟨h1,?_,h3⟩
     rw[<-h2,Nat.and_assoc,rest_sub]
   ·have:=pc_rest hok.sub
    simp only[List.map_cons,List.sum_cons]
    omega
   ·obtain⟨_,h2,_⟩:=i1 g hg
    rw[<-h2]
    refine Nat.eq_of_testBit_eq λi=>?_
    rw[restN,Nat.testBit_and,Nat.testBit_and,Nat.testBit_xor,Nat.testBit_and,Nat.zero_testBit]
    cases(getW (waysL lies wt n (2^n-1)) b).f.testBit i<;>cases b.testBit i<;>cases g.testBit i<;>rfl
theorem blt_yes{a b:Nat}(h:a<b):Nat.blt a b=true:=Nat.ble_eq_true_of_le h
theorem blt_no{a b:Nat}(h:¬a<b):Nat.blt a b=false:=by
 cases hh:Nat.blt a b with
 |false=>rfl
 |true=>exact absurd (Nat.le_of_ble_eq_true hh) h
theorem bitS_pow{i j:Nat}(h:bitS (2^i) j=true):j=i:=by
 unfold bitS at h
 rw[<-Nat.testBit_eq_decide_div_mod_eq,Nat.testBit_two_pow]at h
 simp at h
 omega
theorem mnx_eq{l:List Int}{v:Int}(hne:l≠[])(h:∀y∈l,y=v):mnL l=v/\mxL l=v:=by
 cases l with
 |nil=>exact absurd rfl hne
 |cons a l=>
  refine⟨?_,?_⟩
  ·exact fold_bd (P:=λy=>y=v) (f:=λa b=>min a b) (λa b ha hb=>by omega) l a (h a (by simp)) (λy hy=>h y (by simp[hy]))
  ·exact fold_bd (P:=λy=>y=v) (f:=λa b=>max a b) (λa b ha hb=>by omega) l a (h a (by simp)) (λy hy=>h y (by simp[hy]))
theorem least_one{ks:List (Nat×Nat)}{i:Nat}(hi:i<ks.length):leastP ks (2^i)=⟨(ks.getD i (0,0)).1,(ks.getD i (0,0)).2,1,1⟩:=by
 have hn:2^i<2^ks.length:=Nat.pow_lt_pow_right (by omega) hi
 have key:∀f:Nat×Nat->Nat,mnL (selL f ks (2^i) ks.length)=((f (ks.getD i (0,0)):Nat):Int)/\mxL (selL f ks (2^i) ks.length)=((f (ks.getD i (0,0)):Nat):Int):=by
  intro f
  refine mnx_eq (selL_ne (Nat.two_pow_pos i) hn) λy hy=>?_
  obtain⟨j,_,hb,rfl⟩:=selL_mem hy
  rw[bitS_pow hb]
 obtain⟨a1,a2⟩:=key Prod.fst
 obtain⟨b1,b2⟩:=key Prod.snd
 unfold leastP
 rw[a1,a2,b1,b2]
 simp
structure Clear(p:BP):Prop where
 nz:nzF p.F=false
 at_:∀x∈p.ks,x.1<p.rn/\x.2<p.rs.size
 m1:1<=p.most
theorem lieN_clear{p:BP}(h:nzF p.F=false)(sb:Nat):lieN p sb=bif Nat.ble 1 (leastP p.ks sb).r&&Nat.ble (leastP p.ks sb).r p.rn&&(Nat.ble 1 (leastP p.ks sb).c&&Nat.ble (leastP p.ks sb).c p.rs.size)&&(Nat.ble ((leastP p.ks sb).t+(leastP p.ks sb).r) p.rn&&Nat.ble ((leastP p.ks sb).l+(leastP p.ks sb).c) p.rs.size)then bif Nat.blt p.most ((leastP p.ks sb).r*(leastP p.ks sb).c)then 4 else 0 else 3:=by
 unfold lieN liesE
 rw[h]
 rfl
def lieB(p:BP)(sb:Nat):Bool:=Nat.beq (lieN p sb) 0
theorem singles_clear{p:BP}(h:Clear p):Singles (lieB p) p.ks.length:=by
 intro i hi
 have hx:=h.at_ (p.ks.getD i (0,0)) (by rw[List.getD_eq_getElem?_getD,List.getElem?_eq_getElem hi];exact List.getElem_mem hi)
 have hm:=h.m1
 unfold lieB
 rw[lieN_clear h.nz,least_one hi]
 generalize p.ks.getD i (0,0)=x at hx
 have e1:(Nat.ble 1 1&&Nat.ble 1 p.rn&&(Nat.ble 1 1&&Nat.ble 1 p.rs.size)&&(Nat.ble (x.1+1) p.rn&&Nat.ble (x.2+1) p.rs.size))=true:=by
  simp only[Bool.and_eq_true,Nat.ble_eq]
  omega
 have e2:Nat.blt p.most (1*1)=false:=blt_no (by omega)
 show Nat.beq (bif (Nat.ble 1 1&&Nat.ble 1 p.rn&&(Nat.ble 1 1&&Nat.ble 1 p.rs.size)&&(Nat.ble (x.1+1) p.rn&&Nat.ble (x.2+1) p.rs.size))then(bif Nat.blt p.most (1*1)then 4 else 0)else 3) 0=true
 rw[e1,e2]
 rfl
def pcE(rn cn most:Nat)(q:Pc):Nat:=bif Nat.ble 1 q.r&&Nat.ble q.r rn&&(Nat.ble 1 q.c&&Nat.ble q.c cn)&&(Nat.ble (q.t+q.r) rn&&Nat.ble (q.l+q.c) cn)then bif Nat.blt most (q.r*q.c)then 4 else 0 else 3
def liesQ(rn cn most:Nat)(ks:List (Nat×Nat))(sb:Nat):Bool:=Nat.beq (pcE rn cn most (leastP ks sb)) 0
def wtQ(ks:List (Nat×Nat))(sb:Nat):Nat:=(leastP ks sb).r*(leastP ks sb).c
def shareQ(rn cn most:Nat)(ks:List (Nat×Nat))(i k:Nat):Bool:=liesQ rn cn most ks (2^i ||| 2^k)
theorem lieB_clear{p:BP}(h:nzF p.F=false):lieB p=liesQ p.rn p.rs.size p.most p.ks:=by
 funext sb
 unfold lieB lieN
 rw[h]
 rfl
theorem wtN_is(p:BP):wtN p=wtQ p.ks:=rfl
theorem shareP_clear{p:BP}(h:nzF p.F=false):shareP p=shareQ p.rn p.rs.size p.most p.ks:=by
 funext i k
 unfold shareP lieN
 rw[h]
 rfl
end Go.Proofs.YtifehdoghfnhoaaGreatDoor.Pa
