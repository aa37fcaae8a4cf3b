/- Seam: CheckOrders of orders that are right: how many meetings. -/
import Derived.Test.YtifehdoghfnhoaaGreatDoorZTsE
import Derived.Test.YtifehdoghfnhoaaGreatDoorZCMap
import Derived.Maps.OwnSet
import Derived.Maps.Range
import Derived.Lib.Hide
namespace Go.Proofs.YtifehdoghfnhoaaGreatDoor.Sm
open Go.RowKit Go.Shelf Go.Maps
set_option maxHeartbeats 400000 in
theorem indexEqL(x:Int)(A:Option Addr)(n c:Nat)(xs:List Int)(w:World)(hs:Sl 1 encI w w.heap.size A n c xs):
 Calls Tryz.prog 199 #[.slice A n c,.int .i64 x] w λe w'=>e=.returned (.int .i64 (idxB (λy=>x==y) xs 0))/\Below w.heap.size w w':=by
 have hl:=hs.len
 have hcap:=hs.cap
 have hbig:=hs.big
 go_enter Tryz.func199,Tryz.ntmps199
 go_wp2
 go_loopw [8] (λi wr=>∃k:Nat,k<=n/\i=.int .i64 k/\(∀j y,j<k->xs[j]? =some y->(x==y)=false)/\Below w.heap.size w wr) (λi _=>n-(intOf i).toNat)
 case atStart=>exact⟨0,by omega,rfl,by omega,Below.refl _ _⟩
 case round=>
  obtain⟨k,hk,rfl,hno,hb⟩:=hrel
  by_cases hlt:k<n
  ·obtain⟨b,o,y,rfl,hB,hx,hc0⟩:=(hs.below hb).ltI hlt
   have Hno:=Lib.hid hno
   have Hx:=Lib.hid hx
   have Hb:=Lib.hid hb
   clear hno hx hb
   cases hxy:(x==y)with
   |true=>
    have Hxy:=Lib.hid hxy
    go_wp2
    go_ret
    exact⟨ret_int (idxB_at (p:=λy=>x==y) Hno.out Hx.out Hxy.out).symm,Hb.out⟩
   |false=>
    have Hxy:=Lib.hid hxy
    go_wp2
    go_roundw
    case rel=>exact⟨k+1,by omega,by go_num,no_succ (p:=λy=>x==y) Hno.out Hx.out Hxy.out,Hb.out⟩
    case measure=>simp[intOf];omega
  ·obtain rfl:k=n:=by omega
   have Hno:=Lib.hid hno
   have Hb:=Lib.hid hb
   clear hno hb
   go_wp2
   go_ret
   exact⟨ret_int (idxB_no (p:=λy=>x==y) (by rw[hl];exact Hno.out)).symm,Hb.out⟩
set_option maxHeartbeats 400000 in
theorem containsEqL(x:Int)(A:Option Addr)(n c:Nat)(xs:List Int)(w:World)(hs:Sl 1 encI w w.heap.size A n c xs):
 Calls Tryz.prog 98 #[.slice A n c,.int .i64 x] w λe w'=>e=.returned (.bool (xs.contains x))/\Below w.heap.size w w':=by
 have H:=Lib.hid (indexEqL x A n c xs w hs)
 clear hs
 go_enter Tryz.func98,Tryz.ntmps98
 go_wp2_with (go_at_call 199;refine H.out.mono ?_;rintro e w1 ⟨rfl,hb1⟩)
 go_ret
 exact⟨rtB (C.idxB_has x xs),hb1⟩
theorem keyed_place:Keyed Tryz.prog 147:=Keyed.of_law (deep_law (m:=4) (by omega) (by kernel_rfl) (by kernel_rfl) (by kernel_rfl))
theorem lits_place(n:Nat)(f k:Int)(hf:(Lit.int .i64 f).wf=true)(hk:(Lit.int .i64 k).wf=true):Tryz.prog.keyLits (n+1+1) 147 [.int .i64 f,.int .i64 k]=some [.int .i64 f,.int .i64 k]:=by
 have c1:Tryz.prog.cellsOf 147=2:=by kernel_rfl
 have c3:Tryz.prog.cellsOf 3=1:=by kernel_rfl
 have c4:Tryz.prog.cellsOf 2=1:=by kernel_rfl
 conv=>lhs;unfold Program.keyLits
 simp only[Tryz.underlying147,c1,c3,c4,C.lits_int Tryz.underlying3 n f hf,C.lits_int Tryz.underlying2 n k hk,List.length_cons,List.length_nil,List.mapM_cons,List.mapM_nil,List.drop_zero,List.drop_succ_cons,List.take_succ_cons,List.take_zero]
 rw[if_pos ⟨trivial,by kernel_rfl⟩]
 rfl
theorem keyP_of(f k:Nat)(hf:f<=1000)(hk:k<=1000):keyOf Tryz.prog 147 (.agg #[.int .i64 f,.int .i64 k])=some (C.keyL f k):=by
 have h1:Tryz.prog.keyType 147=true:=by kernel_rfl
 have h2:∃n,Tryz.prog.types.size+1=n+1+1:=⟨Tryz.prog.types.size-1,by kernel_rfl⟩
 obtain⟨n,hn⟩:=h2
 have c1:Tryz.prog.cellsOf 147=2:=by kernel_rfl
 unfold keyOf
 rw[hn]
 simp only[Tryz.underlying147,h1,Value.formed,c1,Value.cells,lits_place n f k (C.wf_small f hf) (C.wf_small k hk)]
 rfl
abbrev OwnsP(W:World)(b n:Nat)(D:C.DM):Prop:=W.ownsMap Tryz.prog 147 (plainElem Tryz.prog 3) b n D
abbrev RangesP(W:World)(b r n:Nat)(D:C.DM)(left:Lit->Bool)(cnt:Nat):Prop:=W.ranges Tryz.prog 147 (plainElem Tryz.prog 3) b r n D left cnt
theorem und_mplace:Tryz.prog.underlying 94=some (.map 147 3):=by kernel_rfl
theorem und_intP:Tryz.prog.underlying 3=some (.int .i64):=by kernel_rfl
def oneW(_ _:Nat):Int:=1
theorem map_card{W:World}{b n:Nat}{D:C.DM}{S:Nat->Nat->Prop}{wt:Nat->Nat->Int}{L:List (Nat×Nat)}(h:OwnsP W b n D)(hm:C.MapIs D S wt)(hL:L.Nodup)(hS:∀f k,S f k↔(f,k)∈L):Maps.size D=L.length:=by
 obtain⟨es,rfl,hpw,hkl⟩:=h.entries keyed_place
 rw[size_eq]
 have h1:(es.map (·.1)).Nodup:=by
  rw[List.nodup_iff_pairwise_ne,List.pairwise_map]
  exact hpw
 have h2:(L.map λx=>C.keyL x.1 x.2).Nodup:=by
  rw[List.nodup_iff_pairwise_ne,List.pairwise_map]
  refine List.Pairwise.imp_of_mem (λ{x y}hx hy hne e=>?_) (List.nodup_iff_pairwise_ne.1 hL)
  have a1:=hm.small x.1 x.2 ((hS _ _).2 hx)
  have a2:=hm.small y.1 y.2 ((hS _ _).2 hy)
  obtain⟨e1,e2⟩:=C.keyL_inj a1.1 a1.2 a2.1 a2.2 e
  exact hne (Prod.ext e1 e2)
 have h3:(es.map (·.1)).Perm (L.map λx=>C.keyL x.1 x.2):=by
  rw[List.perm_ext_iff_of_nodup h1 h2]
  intro z
  constructor
  ·intro hz
   obtain⟨p,hp,rfl⟩:=List.mem_map.1 hz
   have hh:has (.map es) p.1=true:=by
    rw[has_eq,List.any_eq_true]
    exact⟨p,hp,WideAt.sameKey_self (hkl p hp)⟩
   obtain⟨f,k,e,hs⟩:=hm.only p.1 hh
   exact List.mem_map.2 ⟨(f,k),(hS f k).1 hs,e.symm⟩
  ·intro hz
   obtain⟨x,hx,rfl⟩:=List.mem_map.1 hz
   have hh:=(hm.yes x.1 x.2 ((hS _ _).2 hx)).1
   rw[has_eq,List.any_eq_true]at hh
   obtain⟨p,hp,hs⟩:=hh
   exact List.mem_map.2 ⟨p,hp,WideAt.sameKey_eq hs⟩
 have:=h3.length_eq
 simpa using this
end Go.Proofs.YtifehdoghfnhoaaGreatDoor.Sm
namespace Go.Proofs.YtifehdoghfnhoaaGreatDoor.Sm
open Go.RowKit Go.Shelf Go.Maps
def inL(L:List Lw)(f x:Nat):Prop:=∃r,L[f]? =some r/\(x:Int)∈r.xs
def inTo(L:List Lw)(i k f x:Nat):Prop:=(f<i/\inL L f x)\/∃r,L[i]? =some r/\f=i/\(x:Int)∈r.xs.take k
structure SmallL(L:List Lw):Prop where
 len:L.length<=100
 rows:∀r∈L,r.n=r.xs.length/\r.n<=100/\∀x∈r.xs,0<=x/\x<=100
theorem SmallL.at{L:List Lw}(h:SmallL L){f x:Nat}(hx:inL L f x):f<=100/\x<=100:=by
 obtain⟨r,hr,hx⟩:=hx
 have h1:=(List.getElem?_eq_some_iff.1 hr).1
 have h2:=h.len
 have h3:=((h.rows r (List.mem_of_getElem? hr)).2.2 _ hx).2
 omega
structure UP(w W:World)(M n:Nat)(S:Nat->Nat->Prop):Prop where
 bel:Below w.heap.size w W
 own:∃D:C.DM,OwnsP W M n D/\C.MapIs D S oneW
 hM:w.heap.size<=M
section
variable{M n:Nat}{w W W':World}{S S':Nat->Nat->Prop}
theorem UP.congr(h:UP w W M n S)(hS:∀f k,S f k↔S' f k):UP w W M n S':=by
 obtain⟨D,h1,h2⟩:=h.own
 exact⟨h.bel,⟨D,h1,h2.congr hS⟩,h.hM⟩
theorem UP.put(h:UP w W M n S)(hn:n<=1000000)(f k:Nat)(hf:f<=1000)(hk:k<=1000):
 ∃W',(Instr.mapUpdate 94 (.map (some M)) (.agg #[.int .i64 f,.int .i64 k]) (.int .i64 1)).run Tryz.prog W=.ok () W'/\UP w W' M (n+1) (λf' k'=>S f' k'\/(f'=f/\k'=k)):=by
 obtain⟨D,h1,h2⟩:=h.own
 have hM:=h.hM
 obtain⟨W',hr,ho,hg⟩:=h1.update keyed_place und_mplace (by simp only[maxLen];omega) (keyP_of f k hf hk) (plainElem_int und_intP (show(Lit.int .i64 1).wf=true by decide))
 exact⟨W',hr,⟨h.bel.trans ⟨hg.os,hg.tape,hg.output,hg.size,λi hi=>hg.block i (by have:=h.bel.size;omega) (λe=>by simp at e;omega)⟩,⟨_,ho,h2.put f k hf hk⟩,hM⟩⟩
end
structure URP(L:List Lw)(w W:World)(M r:Nat)(D:C.DM)(left:Lit->Bool):Prop where
 bel:Below w.heap.size w W
 is:C.MapIs D (λf x=>inL L f x/\(left (C.keyL f x)=true\/inL L (f+1) x)) oneW
 has:∀z,left z=true->has D z=true
 hM:w.heap.size<=M
 rl:w.heap.size<=r
 ne:M≠r
section
variable{L:List Lw}{M r:Nat}{w W W':World}{D:C.DM}{left:Lit->Bool}
theorem URP.later(h:URP L w W M r D left)(hb:Below W.heap.size W W'):URP L w W' M r D left:=⟨Below.later h.bel hb,h.is,h.has,h.hM,h.rl,h.ne⟩
theorem URP.grown(h:URP L w W M r D left)(hg:W.grownBy W' (some r)):URP L w W' M r D left:=by
 have hrl:=h.rl
 exact⟨h.bel.trans ⟨hg.os,hg.tape,hg.output,hg.size,λi hi=>hg.block i (by have:=h.bel.size;omega) (λe=>by simp at e;omega)⟩,h.is,h.has,h.hM,hrl,h.ne⟩
theorem URP.stay(h:URP L w W M r D left){f x:Nat}(hs:inL L (f+1) x)(hf:f<=1000)(hx:x<=1000):URP L w W M r D (λz=>left z&&!z.sameKey (C.keyL f x)):=by
 refine⟨h.bel,h.is.congr (λf' x'=>?_),λz hz=>h.has z (by simp at hz;exact hz.1),h.hM,h.rl,h.ne⟩
 by_cases e:f'=f/\x'=x
 ·obtain⟨rfl,rfl⟩:=e
  exact⟨λhh=>⟨hh.1,.inr hs⟩,λhh=>⟨hh.1,.inr hs⟩⟩
 ·constructor
  ·rintro⟨h0,h1⟩
   have hsm:=h.is.small f' x' ⟨h0,h1⟩
   refine⟨h0,h1.imp_left λh1=>?_⟩
   have hne:C.keyL f' x'≠C.keyL f x:=λe'=>e (C.keyL_inj hsm.1 hsm.2 hf hx e')
   simp[h1,sameKey_ne hne]
  ·rintro⟨h0,h1⟩
   exact⟨h0,h1.imp_left λh1=>by simp at h1;exact h1.1⟩
theorem URP.gone(h:URP L w W M r D left)(hg:W.grownBy W' (some M)){f x:Nat}(hs:¬inL L (f+1) x)(hf:f<=1000)(hx:x<=1000):URP L w W' M r (D.del (C.keyL f x)) (λz=>left z&&!z.sameKey (C.keyL f x)):=by
 have hself:(C.keyL f x).sameKey (C.keyL f x)=true:=WideAt.sameKey_self (keyed_place.key (keyP_of f x hf hx))
 have hM:=h.hM
 refine⟨h.bel.trans ⟨hg.os,hg.tape,hg.output,hg.size,λi hi=>hg.block i (by have:=h.bel.size;omega) (λe=>by simp at e;omega)⟩,(h.is.del f x hf hx).congr (λf' x'=>?_),λz hz=>?_,hM,h.rl,h.ne⟩
 ·by_cases e:f'=f/\x'=x
  ·obtain⟨rfl,rfl⟩:=e
   constructor
   ·exactλhh=>absurd ⟨rfl,rfl⟩ hh.2
   ·rintro⟨h0,h1|h1⟩
    ·simp[hself]at h1
    ·exact absurd h1 hs
  ·constructor
   ·rintro⟨⟨h0,h1⟩,_⟩
    have hsm:=h.is.small f' x' ⟨h0,h1⟩
    refine⟨h0,h1.imp_left λh1=>?_⟩
    have hne:C.keyL f' x'≠C.keyL f x:=λe'=>e (C.keyL_inj hsm.1 hsm.2 hf hx e')
    simp[h1,sameKey_ne hne]
   ·rintro⟨h0,h1⟩
    exact⟨⟨h0,h1.imp_left λh1=>by simp at h1;exact h1.1⟩,e⟩
 ·simp at hz
  have hne:z≠C.keyL f x:=λe=>by subst e;rw[hself]at hz;simp at hz
  rw[has_del_other hne]
  exact h.has z hz.1
end
theorem take_has{xs:List Int}{k:Nat}{y:Int}(h:xs[k]? =some y) (x:Int):x∈xs.take (k+1)↔x∈xs.take k\/x=y:=by
 obtain⟨h1,h2⟩:=List.getElem?_eq_some_iff.1 h
 rw[List.take_succ_eq_append_getElem h1,h2,List.mem_append,List.mem_singleton]
set_option maxRecDepth 100000 in
set_option maxHeartbeats 8000000 in
theorem meetings_ok(A:Option Addr)(n c:Nat)(L:List Lw)(w:World)(hp:PanIn w A n c L)(hs:SmallL L):
 Calls Tryz.prog 40 #[.slice A n c] w λe w'=>∃(M m:Nat)(D:C.DM),e=.returned (.map (some M))/\Below w.heap.size w w'/\OwnsP w' M m D/\C.MapIs D (λf x=>inL L f x/\inL L (f+1) x) oneW:=by
 have hB:=balloc (brefl w) (.map #[] 0)
 have HU0:=Lib.hid (show UP w (w.alloc (.map #[] 0)) w.heap.size 0 (inTo L 0 0)from⟨hB,⟨.map [],World.ownsMap_made (H:=Unit) w Tryz.prog 147 (plainElem Tryz.prog 3),(C.MapIs.empty oneW).congr (λf x=>⟨λhh=>hh.elim,λhh=>by
  rcases hh with hh|⟨r,_,_,hh⟩
  ·omega
  ·simp at hh⟩)⟩,Nat.le_refl _⟩)
 have hmm:=@run_makeMap Tryz.prog
 have Hp:=Lib.hid hp
 have Hs:=Lib.hid hs
 have hl:=hp.sl.len
 have hcap:=hp.sl.cap
 have hl100:=hs.len
 rw[hl]at hl100
 have Hl:=Lib.hid (show L.length=n/\n<=100 from⟨hl,hl100⟩)
 clear hp hs hB hl
 go_enter Tryz.func40,Tryz.ntmps40
 go_wp2_with fail
 clear hmm
 refine lpn (λq a W=>a.defers=[]/\∃(i m:Nat),i+q=n/\m<=101*i/\UP w W w.heap.size m (inTo L i 0)/\Fits (some (.slice A n c)::none::none::some (.map (some w.heap.size))::none::none::none::none::none::none::some (.slice A n c)::some (.int .i64 (n:Nat))::some (.int .i64 (i:Nat))::none::none::none::none::none::none::none::none::none::none::none::none::none::none::none::none::none::none::none::none::none::none::none::none::none::none::none::none::none::none::none::none::none::none::none::none::none::none::none::none::none::none::none::[]) a.tmps.toList) n ?_ ?_
 ·refine⟨rfl,0,0,by omega,by omega,HU0.out,?_⟩
  repeat (first|exact ftL|refine ftN ?_|refine ftS ?_)
 clear HU0
 intro q a W hI K1 hK
 obtain⟨hds,i,m,hiq,hm,hU,hfit⟩:=hI
 obtain⟨f',hf'⟩:=ftA hfit
 rw[hds]at hf'
 subst hf'
 clear hfit hds
 simp only[fillP,Nat.reduceAdd]
 have HU:=Lib.hid hU
 have HK:=Lib.hid (@hK)
 clear hU hK
 by_cases hlt:i<n
 ·obtain⟨b,o,r,rfl,hbb,hr,r0⟩:=ltLw (Hp.out.later HU.out.bel).sl hlt
  have hrm:=List.mem_of_getElem? hr
  obtain⟨a1,a2,a3⟩:=Hs.out.rows r hrm
  have i1:(i:Int)<(n:Int):=by omega
  have i2:(0:Int)<=(i:Int):=by omega
  have i3:IntKind.i64.wrap ((i:Int)+1)=((i+1:Nat):Int):=by rw[IntKind.wrap_i64];omega
  have Hi:=Lib.hid (show i+q=n/\i<n/\m<=101*i from⟨hiq,hlt,hm⟩)
  have Hr:=Lib.hid hr
  have Ha:=Lib.hid (And.intro a1 (And.intro a2 a3))
  have HRow:=Lib.hid (λW(h:Below w.heap.size w W)=>(Hp.out.later h).rows r hrm)
  have hrc:=((Hp.out.later HU.out.bel).rows r hrm).cap
  obtain⟨rA,rn,rc,rxs⟩:=r
  simp only at r0 HRow Ha hrc
  clear hr hrm a1 a2 a3 hiq hm hbb
  go_wp2_with fail
  clear r0
  refine lpn (λq2 a W=>a.defers=[]/\∃(k m:Nat),k+q2=rn/\m<=101*i+k/\UP w W w.heap.size m (inTo L i k)/\Fits (some (.slice (some ⟨b,o,none⟩) n c)::none::none::some (.map (some w.heap.size))::some (.int .i64 (i:Nat))::none::none::none::none::none::some (.slice (some ⟨b,o,none⟩) n c)::some (.int .i64 (n:Nat))::some (.int .i64 (i:Nat))::none::none::none::none::some (.slice rA rn rc)::some (.int .i64 (rn:Nat))::some (.int .i64 (k:Nat))::none::none::none::none::none::none::none::none::none::none::none::none::none::none::none::none::none::none::none::none::none::none::none::none::none::none::none::none::none::none::none::none::none::none::none::none::[]) a.tmps.toList) rn ?_ ?_
  ·refine⟨rfl,0,m,by omega,by have:=Hi.out;omega,HU.out,?_⟩
   repeat (first|exact ftL|refine ftN ?_|refine ftS ?_)
  clear HU
  clear W
  intro q2 a2 W hI2 K2 hK2
  obtain⟨hds,k,m,hkq,hm,hU,hfit⟩:=hI2
  obtain⟨f',hf'⟩:=ftA hfit
  rw[hds]at hf'
  subst hf'
  clear hfit hds
  simp only[fillP,Nat.reduceAdd]
  have HK2:=Lib.hid (@hK2)
  have HU:=Lib.hid hU
  clear hK2 hU
  by_cases hkl:k<rn
  ·obtain⟨b2,o2,y,rfl,hbb2,hy,y0⟩:=(HRow.out W HU.out.bel).ltI hkl
   obtain⟨hy0,hy1⟩:=Ha.out.2.2 y (List.mem_of_getElem? hy)
   obtain⟨x,rfl⟩:∃x:Nat,y=x:=⟨y.toNat,by omega⟩
   have hrn:=Ha.out.2.1
   have hi:=Hi.out
   obtain⟨W',hrun,hU'⟩:=HU.out.put (by omega) i x (by omega) (by omega)
   have hU2:=hU'.congr (S':=inTo L i (k+1)) (λf z=>by
    unfold inTo
    rw[Hr.out]
    constructor
    ·rintro((hh|⟨r',e,rfl,hh⟩)|⟨rfl,rfl⟩)
     ·exact .inl hh
     ·cases e
      exact .inr ⟨_,rfl,rfl,(take_has hy _).2 (.inl hh)⟩
     ·exact .inr ⟨_,rfl,rfl,(take_has hy _).2 (.inr rfl)⟩
    ·rintro(hh|⟨r',e,rfl,hh⟩)
     ·exact .inl (.inl hh)
     ·cases e
      rcases(take_has hy _).1 hh with hh|hh
      ·exact .inl (.inr ⟨_,rfl,rfl,hh⟩)
      ·exact .inr ⟨rfl,by omega⟩)
   have HU2:=Lib.hid hU2
   have k1:(k:Int)<(rn:Int):=by omega
   have k2:(0:Int)<=(k:Int):=by omega
   have k3:IntKind.i64.wrap ((k:Int)+1)=((k+1:Nat):Int):=by rw[IntKind.wrap_i64];omega
   have Hkq:=Lib.hid (show k+q2=rn/\m<=101*i+k/\k<rn from⟨hkq,hm,hkl⟩)
   clear hU' hU2 hy hy0 hy1 hrn hi hkq hm hbb2
   go_wp2_with fail
   obtain⟨j1,j2,j3⟩:=Hkq.out
   refine HK2.out _ _ (q2-1) (by omega) ⟨rfl,k+1,m+1,by omega,by omega,HU2.out,?_⟩
   repeat (first|exact ftL|refine ftN ?_|refine ftS ?_)
  ·have hke:k=rn:=by omega
   have hU2:=HU.out.congr (S':=inTo L (i+1) 0) (λf z=>by
    unfold inTo
    rw[Hr.out]
    have htk:rxs.take k=rxs:=List.take_of_length_le (by have:=Ha.out.1;omega)
    constructor
    ·rintro(hh|⟨r',e,rfl,hh⟩)
     ·exact .inl ⟨by omega,hh.2⟩
     ·cases e
      rw[htk]at hh
      exact .inl ⟨by omega,_,Hr.out,hh⟩
    ·rintro(⟨hh,r',e,hh2⟩|⟨r',_,_,hh⟩)
     ·by_cases ef:f=i
      ·subst ef
       rw[Hr.out]at e
       cases e
       exact .inr ⟨_,rfl,rfl,by rw[htk];exact hh2⟩
      ·exact .inl ⟨by omega,r',e,hh2⟩
     ·simp at hh)
   have HU2:=Lib.hid hU2
   have hrn:=Ha.out.2.1
   have Hm:=Lib.hid (show m<=101*(i+1)by omega)
   subst hke
   clear hU2 hkq hkl HU hm hrn
   go_wp2_with fail
   obtain⟨j1,j2,j3⟩:=Hi.out
   refine HK.out _ _ (q-1) (by omega) ⟨rfl,i+1,m,by omega,Hm.out,HU2.out,?_⟩
   repeat (first|exact ftL|refine ftN ?_|refine ftS ?_)
 ·have hie:i=n:=by omega
  subst hie
  have hU2:=HU.out.congr (S':=inL L) (λf z=>by
   unfold inTo
   constructor
   ·rintro(hh|⟨r',e,_,hh⟩)
    ·exact hh.2
    ·simp at hh
   ·rintro⟨r',e,hh⟩
    have:=(List.getElem?_eq_some_iff.1 e).1
    exact .inl ⟨by have:=Hl.out;omega,r',e,hh⟩)
  have HB:=Lib.hid hU2.bel
  obtain⟨D0,hown0,hD0⟩:=hU2.own
  have Hown0:=Lib.hid hown0
  have HD0:=Lib.hid hD0
  have hMlt:w.heap.size<W.heap.size:=by
   obtain⟨_,_,hb,_⟩:=hown0
   exact(Array.getElem?_eq_some_iff.1 hb).1
  have HMl:=Lib.hid hMlt
  clear hown0 hD0 HK hMlt hiq hm hU2 hlt
  go_wp2_with (at_range;refine wpList_range_own _ rfl _ 94 rfl 147 3 keyed_place und_mplace _ w.heap.size m D0 rfl Hown0.out ?_;intro w0 hrg0 hg0 hs0)
  go_frame
  have HR0:=Lib.hid (show URP L w w0 w.heap.size W.heap.size D0 (Maps.has D0)from by
   refine⟨HB.out.trans ⟨hg0.os,hg0.tape,hg0.output,hg0.size,λi hi=>hg0.block i (by have:=HB.out.size;omega) (λe=>by cases e)⟩,HD0.out.congr (λf x=>?_),λz h=>h,Nat.le_refl _,HB.out.size,Nat.ne_of_lt HMl.out⟩
   exact⟨λh=>⟨h,.inl (HD0.out.yes f x h).1⟩,λh=>h.1⟩)
  have Hrg0:=Lib.hid hrg0
  obtain⟨r,hr⟩:∃r,W.heap.size=r:=⟨_,rfl⟩
  rw[hr]at HR0 Hrg0 ⊢
  clear hrg0 hg0 hs0 HU HB Hown0 HD0 HMl hr
  clear W
  refine lpn (λq a W=>a.defers=[]/\∃(D:C.DM)(left:Lit->Bool)(cnt:Nat),cnt<=q/\URP L w W w.heap.size r D left/\RangesP W w.heap.size r m D left cnt/\Fits (some (.slice A i c)::none::none::some (.map (some w.heap.size))::none::none::none::none::none::none::none::none::none::none::none::none::none::none::none::none::none::none::none::none::none::none::none::none::none::none::some (.pointer (some ⟨r,0,none⟩))::none::none::none::none::none::none::none::none::none::none::none::none::none::none::none::none::none::none::none::none::none::none::none::none::none::[]) a.tmps.toList) (Maps.size D0) ?_ ?_
  ·refine⟨rfl,D0,_,_,Nat.le_refl _,HR0.out,Hrg0.out,?_⟩
   repeat (first|exact ftL|refine ftN ?_|refine ftS ?_)
  clear HR0 Hrg0
  clear w0
  intro q a W hI K hK
  obtain⟨hds,D,left,cnt,hcm,hR,hrg,hfit⟩:=hI
  obtain⟨f,hf⟩:=ftA hfit
  rw[hds]at hf
  subst hf
  clear hfit hds
  simp only[fillP,Nat.reduceAdd]
  have HR:=Lib.hid hR
  have Hrg:=Lib.hid hrg
  have HK:=Lib.hid (@hK)
  clear hR hrg hK
  rcases Hrg.out.next keyed_place 0 with⟨hc0,hl0,hrun⟩|⟨x,cc,kl,y,w1,cnt1,hkey,hlk,hv,hat,hrun,hrg1,hlt1,hgr,hsz,hen⟩
  ·have hown:=Hrg.out.owns
   have hD:C.MapIs D (λf x=>inL L f x/\inL L (f+1) x) oneW:=HR.out.is.congr (λf x=>by
    rw[hl0]
    simp only[Bool.false_eq_true,false_or])
   have Hown:=Lib.hid hown
   have HD:=Lib.hid hD
   clear hc0 hl0 hown hD HK
   go_wp2_with fail
   go_ret
   exact⟨w.heap.size,m,D,rfl,HR.out.bel,Hown.out,HD.out⟩
  ·obtain⟨fl,fx,rfl,hS⟩:=HR.out.is.only kl (HR.out.has kl hlk)
   have hsm:=Hs.out.at hS.1
   have hfl:fl<i:=by
    obtain⟨r',hr',_⟩:=hS.1
    have:=(List.getElem?_eq_some_iff.1 hr').1
    have:=Hl.out
    omega
   obtain rfl:x=.agg #[.int .i64 fl,.int .i64 fx]:=keyed_place.inj hkey (keyP_of fl fx (by omega) (by omega))
   obtain⟨cv,rfl,hy,hwf⟩:=plainElem_int_inv und_intP hv
   obtain rfl:cv=1:=by
    have h1:=(HR.out.is.yes fl fx hS).2 (.lit (.int .i64 0))
    rw[hat,hy]at h1
    simpa[oneW]using h1
   have hR1:=HR.out.grown hgr
   have HR1:=Lib.hid hR1
   have Hrg1:=Lib.hid hrg1
   have HP1:=Lib.hid (Blk.new w1 147 #[.int .i64 (fl:Nat),.int .i64 (fx:Nat)])
   have HB2:=Lib.hid (balloc (brefl w1) (.cells #[.int .i64 (fl:Nat),.int .i64 (fx:Nat)] 147))
   have HF:=Lib.hid (show fl<=100/\fx<=100/\fl<i/\cnt1<cnt/\cnt<=q from⟨hsm.1,hsm.2,hfl,hlt1,hcm⟩)
   have s1:IntKind.i64.wrap ((fl:Int)+1)=((fl+1:Nat):Int):=by rw[IntKind.wrap_i64];omega
   have hPan:=Hp.out.later (Below.later hR1.bel HB2.out)
   have HPan:=Lib.hid hPan
   clear hkey hlk hv hat hgr hsz hS hy hwf hR1 hrg1 HR Hrg hsm hlt1 hcm hPan
   obtain⟨fm,hfm⟩:∃z,fl+1=z:=⟨_,rfl⟩
   rw[hfm]at s1
   have Hfm:=Lib.hid hfm
   clear hfm
   by_cases hfi:fm=i
   ·subst hfi
    have hno:¬inL L (fl+1) fx:=by
     rintro⟨r',hr',_⟩
     have h1:=(List.getElem?_eq_some_iff.1 hr').1
     have:=Hl.out
     have:=Hfm.out
     omega
    have HNo:=Lib.hid hno
    clear hno
    go_wp2_with fail
    refine dag 18 (by kernel_rfl) (by kernel_rfl) (.is ?_::.is ?_::.is ?_::.is ?_::.is ?_::.is ?_::.is ?_::.is ?_::.is ?_::.is ?_::.is ?_::.is ?_::.is ?_::.is ?_::.is ?_::.is ?_::.is ?_::.is ?_::[]) rfl ?st1 ?ob1
    case st1=>repeat (first|exact stab_nil|refine stab_is ?_)
    case ob1=>
    intro env V hG
    have HC3:=Lib.hid (Below.later HB2.out hG)
    have HP3:=Lib.hid (HP1.out.later hG)
    have p0:=HP3.out.cell 0
    have p1:=HP3.out.cell 1
    have p2:=HP3.out.lt
    iterate 18 (refine obI ?_ ?_;unfold dsA;go_simp;(try go_bits);(first|(refine⟨brefl _,?_⟩;rfl)|rfl);intro K hK;go_simp;refine hK _ ?_;clear hK K)
    refine obN (λhok=>?_)
    clear hok hG
    have hrg3:RangesP V w.heap.size r m D (λz=>left z&&!z.sameKey (C.keyL fl fx)) cnt1:=Hrg1.out.kept (C.grown_none HC3.out) (by simp) (by simp)
    obtain⟨w',cnt',hrunD,hrg4,hle,hturn⟩:=hrg3.drop keyed_place und_mplace (keyP_of fl fx (by have:=HF.out;omega) (by have:=HF.out;omega)) 0
    rw[Maps.strike_twice]at hrg4
    have HR3:=HR1.out.later HC3.out
    have HR4:=Lib.hid (HR3.gone hturn.grown HNo.out (by have:=HF.out;omega) (by have:=HF.out;omega))
    have Hrg4:=Lib.hid hrg4
    have Hcm:=Lib.hid (show cnt'<=q-1/\q-1<q by have:=HF.out;omega)
    clear hrg3 HR3 HR1 Hrg1 hrg4 hle hturn
    go_wp2_with fail
    refine HK.out _ _ (q-1) Hcm.out.2 ⟨rfl,_,_,cnt',Hcm.out.1,HR4.out,Hrg4.out,?_⟩
    repeat (first|exact ftL|refine ftN ?_|refine ftS ?_)
   ·have hfi2:fm<i:=by have:=HF.out;have:=Hfm.out;omega
    obtain⟨b,o,r',rfl,hbb,hr',r0⟩:=ltLw HPan.out.sl hfi2
    have f1:(fm:Int)<(i:Int):=by omega
    have f2:(0:Int)<=(fm:Int):=by omega
    have f3:((fm:Int)==(i:Int))=false:=by rw[beq_eq_false_iff_ne];omega
    have f4:¬((fm:Int)=(i:Int)):=by omega
    have Hrow:=Lib.hid (HPan.out.rows r' (List.mem_of_getElem? hr'))
    obtain⟨b2,hb2⟩:∃b,r'.xs.contains (fx:Int)=b:=⟨_,rfl⟩
    have Hb2:=Lib.hid (show b2=true↔inL L (fl+1) fx from by
     rw[<-hb2,List.contains_iff_mem,Hfm.out]
     exact⟨λh=>⟨r',hr',h⟩,λ⟨r2,e,h⟩=>by rw[hr']at e;cases e;exact h⟩)
    have Hc:=Lib.hid (λV(h:Below (w1.alloc (.cells #[.int .i64 (fl:Nat),.int .i64 (fx:Nat)] 147)).heap.size (w1.alloc (.cells #[.int .i64 (fl:Nat),.int .i64 (fx:Nat)] 147)) V)=>by
     have h1:=containsEqL (fx:Int) r'.A r'.n r'.c r'.xs V (Hrow.out.later h)
     rw[hb2]at h1
     exact h1)
    clear hb2 hr'
    go_wp2_with fail
    refine dag 18 (by kernel_rfl) (by kernel_rfl) (.is ?_::.is ?_::.is ?_::.is ?_::.is ?_::.is ?_::.is ?_::.is ?_::.is ?_::.is ?_::.is ?_::.is ?_::.is ?_::.is ?_::.is ?_::.is ?_::.is ?_::.is ?_::[]) rfl ?st2 ?ob2
    case st2=>repeat (first|exact stab_nil|refine stab_is ?_)
    case ob2=>
    intro env V hG
    have HG:=Lib.hid hG
    have HC3:=Lib.hid (Below.later HB2.out hG)
    have HP3:=Lib.hid (HP1.out.later hG)
    have p0:=HP3.out.cell 0
    have p1:=HP3.out.cell 1
    have p2:=HP3.out.lt
    have r1:=(hG.cell (p:=⟨b,o+fm,none⟩) hbb).trans r0
    have r2:=Nat.lt_of_lt_of_le hbb hG.size
    iterate 15 (refine obI ?_ ?_;unfold dsA;go_simp;(try go_bits);(first|(refine⟨brefl _,?_⟩;rfl)|rfl);intro K hK;go_simp;refine hK _ ?_;clear hK K)
    refine obI ?_ ?_
    ·unfold dsA
     go_simp
     refine(Hc.out V HG.out).mono ?_
     rintro e w4⟨rfl,hb4⟩
     refine⟨?_,hb4⟩
     rfl
    intro K hK
    go_simp
    refine hK _ ?_
    clear hK K
    iterate 2 (refine obI ?_ ?_;unfold dsA;go_simp;(try go_bits);(first|(refine⟨brefl _,?_⟩;rfl)|rfl);intro K hK;go_simp;refine hK _ ?_;clear hK K)
    refine obN (λhok=>?_)
    have HR3:=HR1.out.later HC3.out
    have hrg3:RangesP V w.heap.size r m D (λz=>left z&&!z.sameKey (C.keyL fl fx)) cnt1:=Hrg1.out.kept (C.grown_none HC3.out) (by simp) (by simp)
    clear hok hG r0 r1 r2 hbb HPan
    cases b2 with
    |true=>
     have HR4:=Lib.hid (HR3.stay (Hb2.out.1 rfl) (by have:=HF.out;omega) (by have:=HF.out;omega))
     have Hrg4:=Lib.hid hrg3
     have Hcm:=Lib.hid (show cnt1<=q-1/\q-1<q by have:=HF.out;omega)
     clear hrg3 HR3 HR1 Hrg1
     go_wp2_with fail
     refine HK.out _ _ (q-1) Hcm.out.2 ⟨rfl,_,_,cnt1,Hcm.out.1,HR4.out,Hrg4.out,?_⟩
     repeat (first|exact ftL|refine ftN ?_|refine ftS ?_)
    |false=>
     obtain⟨w',cnt',hrunD,hrg4,hle,hturn⟩:=hrg3.drop keyed_place und_mplace (keyP_of fl fx (by have:=HF.out;omega) (by have:=HF.out;omega)) 0
     rw[Maps.strike_twice]at hrg4
     have HR4:=Lib.hid (HR3.gone hturn.grown (λh=>by have:=Hb2.out.2 h;cases this) (by have:=HF.out;omega) (by have:=HF.out;omega))
     have Hrg4:=Lib.hid hrg4
     have Hcm:=Lib.hid (show cnt'<=q-1/\q-1<q by have:=HF.out;omega)
     clear hrg3 HR3 HR1 Hrg1 hrg4 hle hturn
     go_wp2_with fail
     refine HK.out _ _ (q-1) Hcm.out.2 ⟨rfl,_,_,cnt',Hcm.out.1,HR4.out,Hrg4.out,?_⟩
     repeat (first|exact ftL|refine ftN ?_|refine ftS ?_)
theorem meets_len{W:World}{M m:Nat}{D:C.DM}{L:List Lw}{P:List (Nat×Nat)}(h:OwnsP W M m D)(hm:C.MapIs D (λf x=>inL L f x/\inL L (f+1) x) oneW)(hP:P.Nodup)(hL:∀f x,(inL L f x/\inL L (f+1) x)↔(f,x)∈P)(ty:TypeId):
 (Builtin.len_ #[94] ty #[.map (some M)]).run Tryz.prog W=.ok (.int .i64 (P.length:Nat)) W:=by
 rw[h.len und_mplace ty,map_card h hm hP hL]
end Go.Proofs.YtifehdoghfnhoaaGreatDoor.Sm
namespace Go.Proofs.YtifehdoghfnhoaaGreatDoor.Sm
open Go.RowKit Go.Shelf Go.Maps
def inS(T:List (List Int))(f x:Nat):Prop:=∃xs,T[f]? =some xs/\(x:Int)∈xs
theorem inL_S{L:List Lw}{T:List (List Int)}(h:L.map (·.xs)=T)(f x:Nat):inL L f x↔inS T f x:=by
 subst h
 constructor
 ·rintro⟨r,hr,hx⟩
  exact⟨r.xs,by rw[List.getElem?_map,hr];rfl,hx⟩
 ·rintro⟨xs,hr,hx⟩
  rw[List.getElem?_map]at hr
  cases hl:L[f]? with
  |none=>rw[hl]at hr;cases hr
  |some r=>
   rw[hl]at hr
   cases hr
   exact⟨r,hl,hx⟩
def SmallT(T:List (List Int)):Prop:=T.length<=100/\∀xs∈T,xs.length<=100/\∀x∈xs,0<=x/\x<=100
theorem small_of{W:World}{A:Option Addr}{n c:Nat}{L:List Lw}{T:List (List Int)}(hp:PanIn W A n c L)(h:L.map (·.xs)=T)(hT:SmallT T):SmallL L:=by
 subst h
 refine⟨by simpa using hT.1,λr hr=>?_⟩
 have h1:=(hp.rows r hr).len
 have h2:=hT.2 r.xs (List.mem_map.2 ⟨r,hr,rfl⟩)
 exact⟨h1.symm,by omega,h2.2⟩
set_option maxRecDepth 100000 in
set_option maxHeartbeats 2000000 in
theorem CheckOrders_ok(LA:Option Addr)(ln lc:Nat)(ls:List Lw)(OA:Option Addr)(on oc:Nat)(ords:List Lw)(P:List (Nat×Nat))(w:World)(hp:PanIn w LA ln lc ls)(hok:PanOk ls)(ho:PanIn w OA on oc ords)(hoo:OrdsOk ls ords)(hT:SmallT (seamsTo ls ords ls.length))(hP:P.Nodup)(hL:∀f x,(inS (seamsTo ls ords ls.length) f x/\inS (seamsTo ls ords ls.length) (f+1) x)↔(f,x)∈P):
 Calls Tryz.prog 19 #[.agg #[.slice LA ln lc],.slice OA on oc] w λe w'=>e=.returned (.tuple #[.int .i64 (P.length:Nat),.int .i64 0])/\Below w.heap.size w w':=by
 have Hb0:=Lib.hid (balloc (brefl w) (.cells #[.slice LA ln lc] 55))
 have Hj:=Lib.hid (joined_ok LA ln lc ls OA on oc ords _ (hp.later Hb0.out) hok (ho.later Hb0.out) hoo)
 have c0:(w.alloc (.cells #[.slice LA ln lc] 55)).cell? ⟨w.heap.size,0,none⟩=some (.slice LA ln lc):=by simp
 have HT:=Lib.hid hT
 have HP:=Lib.hid hP
 have HL:=Lib.hid hL
 clear hp hok ho hoo hT hP hL
 go_enter Tryz.func19,Tryz.ntmps19
 go_wp2_with fail
 refine Hj.out.mono ?_
 rintro e w2⟨A,c,L,rfl,hb,hPa,hLm⟩
 have HB:=Lib.hid (Below.later Hb0.out hb)
 have Hm:=Lib.hid (meetings_ok A L.length c L w2 hPa (small_of hPa hLm HT.out))
 have HLm:=Lib.hid hLm
 clear hb hPa hLm c0 Hj Hb0
 go_wp2_with fail
 refine Hm.out.mono ?_
 rintro e w3⟨M,m,D,rfl,hb3,hown,hmap⟩
 have HB3:=Lib.hid (Below.later HB.out hb3)
 have hlen:=λty=>meets_len (P:=P) hown hmap HP.out (λf x=>by rw[inL_S HLm.out,inL_S HLm.out];exact HL.out f x) ty
 clear hb3 hown hmap Hm
 go_wp2_with fail
 go_ret2
 exact⟨rfl,HB3.out⟩
end Go.Proofs.YtifehdoghfnhoaaGreatDoor.Sm
