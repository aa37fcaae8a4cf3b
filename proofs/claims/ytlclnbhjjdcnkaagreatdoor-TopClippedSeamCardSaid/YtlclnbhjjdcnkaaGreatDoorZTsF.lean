/- Plain: strips, cut by cut, and what a place is. -/
import Derived.Test.YtlclnbhjjdcnkaaGreatDoorZTsC
import Derived.Test.YtlclnbhjjdcnkaaGreatDoorZSApiG
import Derived.Test.YtlclnbhjjdcnkaaGreatDoorZSThree
namespace Go.Proofs.YtlclnbhjjdcnkaaGreatDoor.Sm
open Go.RowKit Go.Shelf
@[irreducible] def mArr (F:Nat->Int):Array Value:=((List.range 5).map (λj=>Value.int .i64 (F j))).toArray
theorem mArr_get(F:Nat->Int){j:Nat}(h:j<5):(mArr F)[j]? =some (.int .i64 (F j)):=by unfold mArr;simp[h]
theorem mArr_size(F:Nat->Int):(mArr F).size=5:=by unfold mArr;simp
theorem mArr_set(F:Nat->Int)(j:Nat)(v:Int):(mArr F).setIfInBounds j (.int .i64 v)=mArr (updN F j v):=by
 apply Array.ext
 ·simp[mArr_size]
 ·intro i h1 h2
  have hi:i<5:=by simpa[mArr_size]using h2
  have e1:=mArr_get (updN F j v) hi
  have e2:=mArr_get F hi
  rw[Array.getElem?_eq_getElem h2]at e1
  rw[Array.getElem?_eq_getElem (by simpa[mArr_size]using hi)]at e2
  simp only[Option.some.injEq]at e1 e2
  rw[e1,Array.getElem_setIfInBounds (by simpa[mArr_size]using hi)]
  by_cases e:j=i
  ·subst e;simp[updN]
  ·rw[if_neg e,e2]
   simp[updN,show¬i=j fromλh=>e h.symm]
theorem und_int:Tryz.prog.underlying 3=some (.int .i64):=by kernel_rfl
theorem info_marks:∃i,Tryz.prog.info? 180=some i/\i.size=5/\i.zero=some (.agg (mArr λ_=>0)):=by
 have h:(Tryz.prog.info? 180).map (λi=>(i.size,i.zero))=some (5,some (.agg (mArr λ_=>0))):=by kernel_rfl
 cases hi:Tryz.prog.info? 180 with
 |none=>simp[hi]at h
 |some i=>simp only[hi,Option.map_some,Option.some.injEq,Prod.mk.injEq]at h;exact⟨i,rfl,h.1,h.2⟩
theorem eqm_items(d:Nat)(A B:Nat->Int)(W:World):∀l:List Nat,(∀j∈l,j<5)->(Op.eqItems (d+1) 3 1 (mArr A) (mArr B) l).run Tryz.prog W=.ok (l.all λj=>A j==B j) W:=by
 intro l
 induction l with
 |nil=>intro _;simp[Op.eqItems]
 |cons j l ih=>
  intro h
  have ih:=ih (λk hk=>h k (by simp[hk]))
  have p1:∀F,(part 3 (mArr F) j).run Tryz.prog W=.ok (.int .i64 (F j)) W:=by
   intro F
   have hpk:Tryz.prog.plainKey 3=true:=by kernel_rfl
   exact run_part_plain W hpk (mArr_get F (h j (by simp)))
  simp only[Op.eqItems,Nat.mul_one,Sem.run_bind,p1,Result.andThen_ok,run_equalIn_int _ _ _ _ _ _ _ und_int]
  cases hab:(A j==B j)with
  |true=>simp[hab,ih]
  |false=>simp[hab]
theorem marks_eq(A B:Nat->Int)(W:World):(Op.equalIn 10000 180 (.agg (mArr A)) (.agg (mArr B))).run Tryz.prog W=.ok ((List.range 5).all λj=>A j==B j) W:=by
 have hq:(Tryz.prog.info? 3).isSome=true:=by kernel_rfl
 obtain⟨i,hi⟩:=Option.isSome_iff_exists.1 hq
 have hu:Tryz.prog.underlying 180=some (.array 5 3):=by kernel_rfl
 rw[run_equalIn_array (P:=Tryz.prog) (w:=W) 9999 (e:=3) (n:=5) (mArr A) (mArr B) hu hi,show Tryz.prog.cellsOf 3=1 from by kernel_rfl]
 exact eqm_items 9998 A B W _ (λj hj=>List.mem_range.1 hj)
theorem load_marks{W:World}{T:Nat}{A:Nat->Int}(h:Blk W T 180 (mArr A)):(loadVar 180 ⟨T,0,none⟩).run Tryz.prog W=.ok (.agg (mArr A)) W:=by
 have hl:(loadCells ⟨T,0,none⟩ (mArr A).toList.length).run Tryz.prog W=.ok (mArr A).toList.toArray W:=
  run_loadCells_list (P:=Tryz.prog) W ⟨T,0,none⟩ (mArr A).toList (λj v hv=>by
   have hj:j<5:=by have:=(List.getElem?_eq_some_iff.1 hv).1;simpa[mArr_size]using this
   have hadd:(⟨T,0,none⟩:Addr).add j=⟨T,j,none⟩:=by unfold Addr.add;split<;>simp_all
   rw[hadd,h.cell j]
   simpa using hv)
 have hsz:(mArr A).toList.length=5:=by simp[mArr_size]
 rw[hsz]at hl
 obtain⟨i,hi,hs,_⟩:=info_marks
 have hagg:(isAgg 180).run Tryz.prog W=.ok true W:=by
  unfold isAgg
  rw[Sem.run_bind,run_underlying (t:=180) (d:=.array 5 3) (by kernel_rfl) W]
  rfl
 simp only[Array.toArray_toList]at hl
 simp[loadVar,Sem.run_bind,hagg,sizeOf,typeInfo,hi,hs,hl]
theorem zero_marks(w:World):(zeroValue 180).run Tryz.prog w=.ok (.agg (mArr λ_=>0)) w:=by
 obtain⟨i,hi,_,hz⟩:=info_marks
 simp[zeroValue,typeInfo,Sem.run_bind,hi,hz]
structure MW(w W:World)(F:Nat->Int)(T:Nat)(LA:Option Addr)(ln lc:Nat)(ls:List Lw):Prop where
 bel:Below w.heap.size w W
 b0:Blk W w.heap.size 180 (mArr F)
 bn:Bn W T LA ln lc ls
section
variable{w W W':World}{F:Nat->Int}{T:Nat}{LA:Option Addr}{ln lc:Nat}{ls:List Lw}
theorem MW.later(h:MW w W F T LA ln lc ls)(hb:Below W.heap.size W W'):MW w W' F T LA ln lc ls:=⟨Below.later h.bel hb,h.b0.later hb,h.bn.later hb⟩
end
structure OrdOk(n:Nat)(os:List Int):Prop where
 len:os.length=n
 rng:∀o∈os,0<=o/\o<n
 nd:os.Nodup
def seenM(os:List Int)(k:Nat):Nat->Int:=λj=>if(j:Int)∈os.take k then 1 else 0
theorem seenM_zero(os:List Int):seenM os 0=λ_=>0:=by
 funext j
 simp[seenM]
theorem seenM_succ{os:List Int}{k x:Nat}(h:os[k]? =some (x:Int)):updN (seenM os k) x 1=seenM os (k+1):=by
 obtain⟨h1,h2⟩:=List.getElem?_eq_some_iff.1 h
 funext j
 unfold seenM updN
 rw[List.take_succ_eq_append_getElem h1,h2]
 by_cases e:j=x
 ·subst e
  simp
 ·rw[if_neg e]
  have e2:¬((j:Int)=(x:Int)):=by omega
  simp[e2]
theorem seenM_new{os:List Int}{k x:Nat}(hn:os.Nodup)(h:os[k]? =some (x:Int)):seenM os k x=0:=by
 obtain⟨h1,h2⟩:=List.getElem?_eq_some_iff.1 h
 unfold seenM
 rw[if_neg]
 intro hm
 obtain⟨j,hj,e⟩:=List.mem_take_iff_getElem.1 hm
 have hj2:j<k:=by omega
 exact absurd (e.trans h2.symm) (List.pairwise_iff_getElem.1 hn j k (by omega) h1 hj2)
set_option maxRecDepth 100000 in
set_option maxHeartbeats 4000000 in
theorem isOrder_ok(T i:Nat)(LA:Option Addr)(ln lc:Nat)(ls:List Lw)(r:Lw)(OA:Option Addr)(on oc:Nat)(os:List Int)(w:World)(hb:Bn w T LA ln lc ls)(hr:ls[i]? =some r) (h5:1<=r.n/\r.n<=5) (ho:Sl 1 encI w w.heap.size OA on oc os) (hok:OrdOk r.n os):
 Calls Tryz.prog 60 #[.pointer (some ⟨T,0,none⟩),.int .i64 (i:Nat),.slice OA on oc] w λe w'=>e=.returned (.bool true)/\Below w.heap.size w w':=by
 have hol:=ho.len
 have hlen:=hok.len
 obtain rfl:on=r.n:=by omega
 have hln:=hb.pan.sl.len
 have hil:i<ln:=by have:=(List.getElem?_eq_some_iff.1 hr).1;omega
 have hT:=hb.b.lt
 have hb0:Blk (w.alloc (.cells (mArr λ_=>0) 180)) w.heap.size 180 (mArr λ_=>0):=Blk.new w _ _
 have hbs:=blk_setCells (List.replicate 5 (.int .i64 0)) 0 _ hb0 (λj v hv=>by
  obtain⟨hj,rfl⟩:=repl_get hv
  rw[Nat.zero_add,mArr_get _ hj])
 have hcl:=λty=>Lib.run_clear_slice (P:=Tryz.prog) (w.alloc (.cells (mArr λ_=>0) 180)) 22 3 ty (.int .i64 0) (by kernel_rfl) (λ_=>by rfl) rfl rfl w.heap.size 0 5 5 (by omega) (λj hj=>by rw[hb0.cell,Nat.zero_add,mArr_get _ hj];rfl) (λj hj=>hb0.frozen _)
 have Hcl:=Lib.hid hcl
 have hbel:Below w.heap.size w ((w.alloc (.cells (mArr λ_=>0) 180)).setCells w.heap.size 0 (List.replicate 5 (.int .i64 0))):=(balloc (brefl w) (.cells (mArr λ_=>0) 180)).trans (Lib.below_setCells_w (Nat.le_refl _) _ 0 _)
 have HC:=Lib.hid (show MW w _ (seenM os 0) T LA ln lc ls from⟨hbel,by rw[seenM_zero];exact hbs,hb.later hbel⟩)
 have hz:=zero_marks w
 have c0:=hb0.lt
 have Hb:=Lib.hid hb
 have Ho:=Lib.hid ho
 have Hok:=Lib.hid hok
 have Hr:=Lib.hid hr
 have Hil:=Lib.hid hil
 clear hb0 hbs hcl hb ho hok hr hol hlen hln hil hbel
 go_enter Tryz.func60,Tryz.ntmps60
 go_wp2_with (refine wpList_alloc_val rfl 180 rfl _ hz ?_)
 clear hz
 rw[Hcl.out]
 simp only[Result.andThen]
 rw[Oper.upon_value]
 generalize (w.alloc (.cells (mArr λ_=>0) 180)).setCells w.heap.size 0 (List.replicate 5 (.int .i64 0))=W0 at*
 clear Hcl c0
 go_wp2_with fail
 refine loop_n (λq a W=>a.defers=[]/\∃k:Nat,k+q=r.n/\MW w W (seenM os k) T LA ln lc ls/\Fits (some (.pointer (some ⟨T,0,none⟩))::some (.int .i64 (i:Nat))::some (.slice OA r.n oc)::none::none::none::none::some (.pointer (some ⟨w.heap.size,0,none⟩))::none::none::none::some (.slice OA r.n oc)::some (.int .i64 (r.n:Nat))::some (.int .i64 (k:Nat))::none::none::none::none::none::none::none::none::none::none::none::none::none::none::none::none::none::none::none::none::none::none::none::none::none::none::none::none::none::none::none::none::none::none::none::none::none::none::none::none::none::none::none::[]) a.tmps.toList) r.n ?_ ?_
 ·refine⟨rfl,0,by omega,HC.out,?_⟩
  repeat (first|exact fits_nil|refine fits_none ?_|refine fits_some ?_)
 clear HC
 clear W0
 intro q a W hI K1 hK
 obtain⟨hds,k,hkq,hC,hfit⟩:=hI
 obtain⟨f',hf'⟩:=fits_act hfit
 rw[hds]at hf'
 subst hf'
 clear hfit hds
 simp only[fillP,Nat.reduceAdd]
 have HC:=Lib.hid hC
 obtain⟨lb,lo,r',rfl,hlb,hx,y0⟩:=ltLw hC.bn.pan.sl Hil.out
 rw[Hr.out]at hx
 cases hx
 have t0:=hC.bn.b.cell 0
 have t1:=hC.bn.b.lt
 have j1:(i:Int)<(ln:Int):=by have:=Hil.out;omega
 have j2:(0:Int)<=(i:Int):=by omega
 by_cases hlt:k<r.n
 ·obtain⟨ob,oo,x,rfl,hob,hx,x0⟩:=(Ho.out.later hC.bel).ltI hlt
  have hxr:=Hok.out.rng x (List.mem_of_getElem? hx)
  obtain⟨xn,rfl⟩:∃xn:Nat,x=xn:=⟨x.toNat,by omega⟩
  have hnew:=seenM_new Hok.out.nd hx
  have Hsu:=Lib.hid (seenM_succ hx)
  have c0:=hC.b0.cell xn
  rw[mArr_get _ (show xn<5 by omega),hnew]at c0
  have c2:=hC.b0.lt
  have c3:=hC.b0.frozen xn
  have hin:inR 0 ((r.n:Int)-1) (xn:Int)=true:=(inR_iff _ _ _).2 (by omega)
  have Hw:=Lib.hid (within_one 0 ((r.n:Int)-1) (xn:Int) W.heap.size (W.alloc (.cells #[.int .i64 (xn:Int)] 2)) (by simp) ((Blk.new W 2 #[.int .i64 (xn:Int)]).cell 0))
  rw[hin]at Hw
  have i1:(k:Int)<(r.n:Int):=by omega
  have i2:(0:Int)<=(k:Int):=by omega
  have i3:IntKind.i64.wrap ((k:Int)+1)=(k:Int)+1:=by rw[IntKind.wrap_i64];omega
  have i4:IntKind.i64.wrap ((r.n:Int)-1)=(r.n:Int)-1:=by rw[IntKind.wrap_i64];omega
  have i5:(xn:Int)<5:=by omega
  have i6:(0:Int)<=(xn:Int):=by omega
  have Hx:=Lib.hid hx
  clear hx hxr hnew hin hC
  go_wp2_with fail
  refine Hw.out.mono ?_
  rintro e w2⟨rfl,hb2⟩
  have hbb:=Below.later (balloc (brefl W) (.cells #[.int .i64 (xn:Int)] 2)) hb2
  have HC2:=Lib.hid (HC.out.later hbb)
  have e0:=HC2.out.b0.cell xn
  rw[mArr_get _ (show xn<5 by omega),seenM_new Hok.out.nd Hx.out]at e0
  have e2:=HC2.out.b0.lt
  have e3:=HC2.out.b0.frozen xn
  have hset:MW w (w2.setCell ⟨w.heap.size,xn,none⟩ (.int .i64 1)) (seenM os (k+1)) T (some ⟨lb,lo,none⟩) ln lc ls:=by
   have hs:=HC2.out.b0.set xn (.int .i64 1)
   rw[mArr_set,Hsu.out]at hs
   have hbl:=bset HC2.out.bel (p:=⟨w.heap.size,xn,none⟩) (by simp) (.int .i64 1)
   exact⟨hbl,hs,Hb.out.later hbl⟩
  have HC3:=Lib.hid hset
  clear hb2 hbb hset c0 c2 c3 t0 t1 y0 x0 hob hlb
  go_wp2
  refine hK _ _ (q-1) (by omega) ⟨rfl,k+1,by omega,HC3.out,?_⟩
  repeat (first|exact fits_nil|refine fits_none ?_|refine fits_some ?_)
 ·obtain rfl:k=r.n:=by omega
  have hld:=load_marks hC.b0
  have heq:=marks_eq (seenM os r.n) (λ_=>0) W
  have hne:((List.range 5).all λj=>seenM os r.n j==0)=false:=by
   have hl0:=Hok.out.len
   obtain⟨x,hx⟩:∃x,os[0]? =some x:=⟨os[0],List.getElem?_eq_getElem (by omega)⟩
   have hm:=List.mem_of_getElem? hx
   have hxr:=Hok.out.rng x hm
   rw[List.all_eq_false]
   refine⟨x.toNat,List.mem_range.2 (by omega),?_⟩
   unfold seenM
   rw[if_pos (by rw[Int.toNat_of_nonneg hxr.1,<-hl0,List.take_length];exact hm)]
   simp
  rw[hne]at heq
  obtain⟨ie,hie⟩:=Option.isSome_iff_exists.1 (show(Tryz.prog.info? 3).isSome=true by kernel_rfl)
  have Hie:=Lib.hid hie
  have c2:=hC.b0.lt
  have HB:=Lib.hid hC.bel
  have i7:¬((r.n:Int)<(r.n:Int)):=by omega
  clear hK hC hne hie hlt hkq HC
  go_wp2_with (first|refine wpList_load_val rfl 180 _ rfl _ rfl _ hld ?_|refine wpList_build_val rfl 180 rfl 5 3 ie (by kernel_rfl) Hie.out _ (zero_marks _) ?_)
  go_ret
  exact⟨rfl,HB.out⟩
def atS(xs os:List Int)(j:Nat):Int:=((os.take j).map λo=>xs.getD o.toNat 0).sum
def seamsL(xs os:List Int)(m:Nat):List Int:=(List.range m).map λj=>atS xs os (j+1)
theorem atS_zero(xs os:List Int):atS xs os 0=0:=by simp[atS]
theorem atS_succ{xs os:List Int}{j o:Nat}{x:Int}(h:os[j]? =some (o:Int)) (hx:xs[o]? =some x):atS xs os (j+1)=atS xs os j+x:=by
 obtain⟨h1,h2⟩:=List.getElem?_eq_some_iff.1 h
 unfold atS
 rw[List.take_succ_eq_append_getElem h1,List.map_append,List.sum_append,h2]
 simp[List.getD,hx]
theorem seamsL_succ(xs os:List Int)(m:Nat):seamsL xs os (m+1)=seamsL xs os m++[atS xs os (m+1)]:=by simp[seamsL,List.range_succ]
theorem seamsL_len(xs os:List Int)(m:Nat):(seamsL xs os m).length=m:=by simp[seamsL]
theorem atS_bound{xs os:List Int}(hx:∀x∈xs,0<=x/\x<=100)(j:Nat):0<=atS xs os j/\atS xs os j<=100*(os.take j).length:=by
 unfold atS
 induction os.take j with
 |nil=>simp
 |cons o l ih=>
  have h1:0<=xs.getD o.toNat 0/\xs.getD o.toNat 0<=100:=by
   rw[List.getD_eq_getElem?_getD]
   cases h:xs[o.toNat]? with
   |none=>simp
   |some x=>exact hx x (List.mem_of_getElem? h)
  simp only[List.map_cons,List.sum_cons,List.length_cons]
  omega
structure SW(w W:World)(v:Value)(zs:List Int):Prop where
 bel:Below w.heap.size w W
 own:W.ownsRow w.heap.size 2 1 v zs.length (zs.map (.int .i64))
theorem SW.later{w W W':World}{v:Value}{zs:List Int}(h:SW w W v zs)(hb:Below W.heap.size W W'):SW w W' v zs:=⟨Below.later h.bel hb,own_later h.own hb⟩
theorem SW.grown{w W W':World}{v v':Value}{zs:List Int}{x:Int}(h:SW w W v zs)(hg:W.grownBy W' v.ownBlock)(ho:W'.ownsRow w.heap.size 2 1 v' (zs.length+1) (zs.map (Value.int .i64)++[.int .i64 x])):SW w W' v' (zs++[x]):=
 ⟨below_row h.bel hg (own_base h.own) h.bel.size,by simpa using ho⟩
set_option maxRecDepth 100000 in
set_option maxHeartbeats 4000000 in
theorem seams_ok(T i:Nat)(LA:Option Addr)(ln lc:Nat)(ls:List Lw)(r:Lw)(OA:Option Addr)(on oc:Nat)(os:List Int)(w:World)(hb:Bn w T LA ln lc ls)(hr:ls[i]? =some r) (h5:1<=r.n/\r.n<=5) (hx:∀x∈r.xs,1<=x/\x<=100) (ho:Sl 1 encI w w.heap.size OA on oc os) (hok:OrdOk r.n os):
 Calls Tryz.prog 61 #[.pointer (some ⟨T,0,none⟩),.int .i64 (i:Nat),.slice OA on oc] w λe w'=>∃A c,e=.returned (.slice A (r.n-1) c)/\Below w.heap.size w w'/\w'.ownsRow w.heap.size 2 1 (.slice A (r.n-1) c) (seamsL r.xs os (r.n-1)).length ((seamsL r.xs os (r.n-1)).map (Value.int .i64)):=by
 have hol:=ho.len
 have hlen:=hok.len
 obtain rfl:on=r.n:=by omega
 have hln:=hb.pan.sl.len
 have hil:i<ln:=by have:=(List.getElem?_eq_some_iff.1 hr).1;omega
 have hcap:=ho.cap
 obtain⟨ob,oo,rfl,_⟩:=ho.at_ (show 0<r.n by omega)
 obtain⟨m,hm⟩:∃m,r.n-1=m:=⟨_,rfl⟩
 have Hrow:=Lib.hid (hb.pan.rows r (List.mem_of_getElem? hr))
 have Hrl:=Lib.hid (hb.pan.rows r (List.mem_of_getElem? hr)).len
 have Hb:=Lib.hid hb
 have Ho:=Lib.hid ho
 have Hok:=Lib.hid hok
 have Hr:=Lib.hid hr
 have Hil:=Lib.hid hil
 have Hx:=Lib.hid hx
 have Hm:=Lib.hid (show r.n=m+1/\m<=4 by omega)
 have k1:IntKind.i64.wrap ((r.n:Int)-1)=(m:Int):=by rw[IntKind.wrap_i64];omega
 have k2:(0:Int)<=(m:Int):=by omega
 have k3:(m:Int)<=(oc:Int):=by omega
 rw[hm]
 have HS:=Lib.hid (show SW w w (.slice none 0 0) (seamsL r.xs os 0)from⟨brefl w,World.ownsRow_nil _ _ _ _⟩)
 clear hb ho hok hr hol hlen hln hil hx hcap hm h5
 go_enter Tryz.func61,Tryz.ntmps61
 go_wp2_with fail
 refine loop_n (λq a W=>a.defers=[]/\∃(k:Nat)(v:Value),k+q=m/\SW w W v (seamsL r.xs os k)/\Fits (some (.pointer (some ⟨T,0,none⟩))::some (.int .i64 (i:Nat))::some (.slice (some ⟨ob,oo,none⟩) r.n oc)::none::none::none::some (.slice none 0 0)::some (v)::some (.int .i64 (atS r.xs os k))::none::none::none::none::none::none::some (.slice (some ⟨ob,oo,none⟩) m oc)::some (.int .i64 (m:Nat))::some (.int .i64 (k:Nat))::none::none::none::none::none::none::none::none::none::none::none::none::none::none::none::none::none::none::none::none::none::none::[]) a.tmps.toList) m ?_ ?_
 ·refine⟨rfl,0,_,by omega,HS.out,?_⟩
  rw[atS_zero]
  repeat (first|exact fits_nil|refine fits_none ?_|refine fits_some ?_)
 clear HS
 intro q a W hI K1 hK
 obtain⟨hds,k,v,hkq,hS,hfit⟩:=hI
 obtain⟨f',hf'⟩:=fits_act hfit
 rw[hds]at hf'
 subst hf'
 clear hfit hds
 simp only[fillP,Nat.reduceAdd]
 by_cases hlt:k<m
 ·have HBn:=Hb.out.later hS.bel
  obtain⟨lb,lo,r',rfl,hlb,hx,y0⟩:=ltLw HBn.pan.sl Hil.out
  rw[Hr.out]at hx
  cases hx
  have t0:=HBn.b.cell 0
  have t1:=HBn.b.lt
  have j1:(i:Int)<(ln:Int):=by have:=Hil.out;omega
  have j2:(0:Int)<=(i:Int):=by omega
  obtain⟨b1,o1,x,e1,hob,hx,x0⟩:=(Ho.out.later hS.bel).ltI (show k<r.n by have:=Hm.out;omega)
  cases e1
  have hxr:=Hok.out.rng x (List.mem_of_getElem? hx)
  obtain⟨xn,rfl⟩:∃xn:Nat,x=xn:=⟨x.toNat,by omega⟩
  obtain⟨rb,ro,y,hA,hrb,hy,y1⟩:=(Hrow.out.later hS.bel).ltI (show xn<r.n by omega)
  rw[hA]at y0
  have hadd:=atS_succ hx hy
  have hyb:=Hx.out y (List.mem_of_getElem? hy)
  have hb0:=atS_bound (os:=os) (λx hx=>⟨by have:=(Hx.out x hx).1;omega,(Hx.out x hx).2⟩) k
  have hb1:(os.take k).length<=4:=by rw[List.length_take];have:=Hm.out;omega
  have hsucc:=seamsL_succ r.xs os k
  rw[hadd]at hsucc
  have hlen:=seamsL_len r.xs os k
  obtain⟨s0,hs0⟩:∃s,atS r.xs os k=s:=⟨_,rfl⟩
  obtain⟨zs,hzs⟩:∃zs,seamsL r.xs os k=zs:=⟨_,rfl⟩
  rw[hs0]at hsucc hadd hb0
  rw[hzs]at hsucc hlen hS
  have i1:(k:Int)<(m:Int):=by omega
  have i2:(0:Int)<=(k:Int):=by omega
  have i3:IntKind.i64.wrap ((k:Int)+1)=(k:Int)+1:=by have:=Hm.out;rw[IntKind.wrap_i64];omega
  have i4:IntKind.i64.wrap (s0+y)=s0+y:=by rw[IntKind.wrap_i64];omega
  have i5:(xn:Int)<(r.n:Int):=by omega
  have i6:(0:Int)<=(xn:Int):=by omega
  have hzl:zs.length<=4:=by have:=Hm.out;omega
  obtain⟨i0,hi0,hz0,hz1,hz2⟩:=info_parts info_long
  have HRa:=Lib.hid (hS.later (balloc (brefl W) (.cells #[.int .i64 (s0+y)] 2)))
  have zbel:=hS.bel.size
  have Hadd:=Lib.hid hadd
  have Hsucc:=Lib.hid hsucc
  have Hkq:=Lib.hid hkq
  clear hx hy hA hxr hadd hsucc hS hyb hb0 hb1 HBn hlen hkq
  rw[hs0]
  clear hs0 hzs
  go_wp2_with (at_builtin;refine wpList_append_own _ rfl _ _ 35 rfl w.heap.size 2 i0 (.int .i64 0) 1 8 und_longs hi0 hz0 hz1 hz2 rfl (by decide) v zs.length _ rfl HRa.out.own ⟨W.heap.size,0,none⟩ 1 1 [.int .i64 (s0+y)] rfl rfl (one_new _ _ _) (by simp[Value.oneCell']) (by simp only[maxLen];omega) (by omega) (by simp;omega) ?_;intro v' W3 hown' hgr _;have HR4:=Lib.hid (HRa.out.grown hgr hown');clear hown' hgr)
  refine hK _ _ (q-1) (by have:=Hkq.out;omega) ⟨rfl,k+1,v',by have:=Hkq.out;omega,by rw[Hsucc.out];exact HR4.out,?_⟩
  rw[Hadd.out]
  repeat (first|exact fits_nil|refine fits_none ?_|refine fits_some ?_)
 ·obtain rfl:k=m:=by omega
  have i7:¬((k:Int)<(k:Int)):=by omega
  have hl:=seamsL_len r.xs os k
  obtain⟨A,c,rfl,hsl⟩:=own_slI hS.own rfl
  have HB:=Lib.hid hS.bel
  have HL:=Lib.hid (show W.ownsRow w.heap.size 2 1 (.slice A k c) (seamsL r.xs os k).length ((seamsL r.xs os k).map (Value.int .i64))from by have h:=hS.own;rw[hl]at h ⊢;exact h)
  clear hK hlt hkq hS hsl
  rw[hl]
  clear hl
  go_wp2_with fail
  go_ret
  exact⟨A,c,rfl,HB.out,HL.out⟩
end Go.Proofs.YtlclnbhjjdcnkaaGreatDoor.Sm
namespace Go.Proofs.YtlclnbhjjdcnkaaGreatDoor.Sm
open Go.RowKit Go.Shelf
theorem und_rows:Tryz.prog.underlying 40=some (.slice 35):=by kernel_rfl
theorem info_row:(Tryz.prog.info? 35).map (λi=>(i.zero,i.size,i.bytes))=some (some (.slice none 0 0),1,24):=by kernel_rfl
structure OutW(W:World)(B:Nat)(v:Value)(L:List Lw):Prop where
 own:W.ownsRow B 35 1 v L.length (L.flatMap encLw)
 rows:∀r∈L,W.ownsRow B 2 1 (.slice r.A r.n r.c) r.xs.length (r.xs.map (Value.int .i64))/\r.n=r.xs.length
theorem OutW.later{W W':World}{B:Nat}{v:Value}{L:List Lw}(h:OutW W B v L)(hb:Below W.heap.size W W'):OutW W' B v L:=⟨own_later h.own hb,λr hr=>⟨own_later (h.rows r hr).1 hb,(h.rows r hr).2⟩⟩
theorem OutW.app{W W':World}{B:Nat}{v v':Value}{L:List Lw}{r:Lw}(h:OutW W B v L)(hr:W.ownsRow B 2 1 (.slice r.A r.n r.c) r.xs.length (r.xs.map (Value.int .i64)))(hn:r.n=r.xs.length)(hg:W.grownBy W' v.ownBlock)(ho:W'.ownsRow B 35 1 v' (L.length+1) (L.flatMap encLw++[.slice r.A r.n r.c])):OutW W' B v' (L++[r]):=by
 refine⟨by simpa[encLw]using ho,λx hx=>?_⟩
 rcases List.mem_append.1 hx with hx|hx
 ·have h1:=h.rows x hx
  exact⟨own_grown h1.1 hg (own_apart (v':=v) h1.1 h.own (by decide)),h1.2⟩
 ·obtain rfl:x=r:=by simpa using hx
  exact⟨own_grown hr hg (own_apart (v':=v) hr h.own (by decide)),hn⟩
theorem OutW.fill{W:World}{B:Nat}{v:Value}{L:List Lw}(h:OutW W B v L):∃A c,v=.slice A L.length c/\PanIn W A L.length c L:=by
 obtain⟨A,c,hv,hsl⟩:=own_slG (k:=1) (enc:=encLw) (λ_=>rfl) h.own rfl
 refine⟨A,c,hv,hsl,λr hr=>?_⟩
 obtain⟨h1,h2⟩:=h.rows r hr
 obtain⟨A',c',hv',hsl'⟩:=own_slI h1 rfl
 simp only[Value.slice.injEq]at hv'
 obtain⟨rfl,h3,rfl⟩:=hv'
 rw[h2]
 exact hsl'
def xsOf(l:List Lw)(j:Nat):List Int:=(l.getD j ⟨none,0,0,[]⟩).xs
theorem xsOf_get{l:List Lw}{j:Nat}{r:Lw}(h:l[j]? =some r):xsOf l j=r.xs:=by simp[xsOf,List.getD,h]
def seamsTo(ls ords:List Lw)(k:Nat):List (List Int):=(List.range k).map λj=>seamsL (xsOf ls j) (xsOf ords j) ((xsOf ls j).length-1)
theorem seamsTo_succ(ls ords:List Lw)(k:Nat):seamsTo ls ords (k+1)=seamsTo ls ords k++[seamsL (xsOf ls k) (xsOf ords k) ((xsOf ls k).length-1)]:=by simp[seamsTo,List.range_succ]
structure JW(w W:World)(v:Value)(L:List Lw):Prop where
 bel:Below w.heap.size w W
 out:OutW W w.heap.size v L
section
variable{w W W':World}{v v':Value}{L:List Lw}{r:Lw}
theorem JW.later(h:JW w W v L)(hb:Below W.heap.size W W'):JW w W' v L:=⟨Below.later h.bel hb,h.out.later hb⟩
theorem JW.grown(h:JW w W v L)(hr:W.ownsRow w.heap.size 2 1 (.slice r.A r.n r.c) r.xs.length (r.xs.map (Value.int .i64)))(hn:r.n=r.xs.length)(hg:W.grownBy W' v.ownBlock)(ho:W'.ownsRow w.heap.size 35 1 v' (L.length+1) (L.flatMap encLw++[.slice r.A r.n r.c])):JW w W' v' (L++[r]):=
 ⟨below_row h.bel hg (own_base h.out.own) h.bel.size,h.out.app hr hn hg ho⟩
end
def OrdsOk(ls ords:List Lw):Prop:=ords.length=ls.length/\∀(j:Nat)r o,ls[j]? =some r->ords[j]? =some o->OrdOk r.n o.xs
set_option maxRecDepth 100000 in
set_option maxHeartbeats 4000000 in
theorem joined_ok(LA:Option Addr)(ln lc:Nat)(ls:List Lw)(OA:Option Addr)(on oc:Nat)(ords:List Lw)(w:World)(hp:PanIn w LA ln lc ls)(hok:PanOk ls)(ho:PanIn w OA on oc ords)(hoo:OrdsOk ls ords):
 Calls Tryz.prog 27 #[.agg #[.slice LA ln lc],.slice OA on oc] w λe w'=>∃A c L,e=.returned (.tuple #[.slice A L.length c,.int .i64 0])/\Below w.heap.size w w'/\PanIn w' A L.length c L/\L.map (·.xs)=seamsTo ls ords ls.length:=by
 have hln:=hp.sl.len
 have hon:=ho.sl.len
 obtain rfl:on=ln:=by have:=hoo.1;omega
 have HK:=Lib.hid (show _/\_ from⟨hp.later (balloc (brefl w) (.cells #[.slice LA on lc] 44)),ho.later (balloc (brefl w) (.cells #[.slice LA on lc] 44))⟩)
 have Hb0:=Lib.hid (balloc (brefl w) (.cells #[.slice LA on lc] 44))
 have c0:(w.alloc (.cells #[.slice LA on lc] 44)).cell? ⟨w.heap.size,0,none⟩=some (.slice LA on lc):=by simp
 have Hok:=Lib.hid hok
 have Hoo:=Lib.hid hoo
 have Hln:=Lib.hid hln
 have l4:on<=4:=by have:=hok.l4;omega
 clear hp ho hok hoo hln hon
 go_enter Tryz.func27,Tryz.ntmps27
 go_wp2_with fail
 refine(open_ok LA on lc ls _ HK.out.1 Hok.out).mono ?_
 rintro e w2⟨T,rfl,hb,hT,hbn⟩
 have hbw:=Below.later Hb0.out hb
 have HO:=Lib.hid (HK.out.2.later hb)
 have HN:=Lib.hid hbn
 have HB:=Lib.hid hbw
 have HT:=Lib.hid (show T<w2.heap.size/\w.heap.size<=w2.heap.size from⟨hbn.b.lt,hbw.size⟩)
 have c1:w2.cell? ⟨w.heap.size,0,none⟩=some (.slice LA on lc):=cell_later hb c0
 have c2:w.heap.size<w2.heap.size:=by have:=hb.size;simp at this;omega
 clear hb hT hbn hbw c0 HK Hb0
 have HJ:=Lib.hid (show JW w2 w2 (.slice none 0 0) []from⟨brefl w2,World.ownsRow_nil _ _ _ _,λr hr=>by cases hr⟩)
 go_wp2_with fail
 have HL0:=Lib.hid (show([]:List Lw).map (·.xs)=seamsTo ls ords 0 from rfl)
 refine loop_n (λq a W=>a.defers=[]/\∃(k:Nat)(v:Value)(L:List Lw),k+q=on/\Hid (JW w2 W v L)/\Hid (L.map (·.xs)=seamsTo ls ords k)/\Fits (some (.agg #[.slice LA on lc])::some (.slice OA on oc)::some (.pointer (some ⟨w.heap.size,0,none⟩))::none::some (.slice none 0 0)::some (.int .i64 0)::some (.pointer (some ⟨T,0,none⟩))::none::some (.func (.func 60) #[.pointer (some ⟨T,0,none⟩)] #[])::some (v)::none::none::none::none::none::none::none::none::none::none::none::none::none::none::none::none::none::none::none::none::some (.slice OA on oc)::some (.int .i64 (on:Nat))::some (.int .i64 (k:Nat))::none::none::none::none::none::none::none::none::none::none::none::none::none::none::none::none::none::none::[]) a.tmps.toList) on ?_ ?_
 ·refine⟨rfl,0,_,_,by omega,HJ,HL0,?_⟩
  repeat (first|exact fits_nil|refine fits_none ?_|refine fits_some ?_)
 clear HJ HL0 HT c1 c2
 intro q a W hI K1 hK
 obtain⟨hds,k,v,L,hkq,HJ,HL,hfit⟩:=hI
 obtain⟨f',hf'⟩:=fits_act hfit
 rw[hds]at hf'
 subst hf'
 clear hfit hds
 simp only[fillP,Nat.reduceAdd]
 by_cases hlt:k<on
 ·have hords:=HO.out.later HJ.out.bel
  obtain⟨ob,oo,o,rfl,hob,hx,y0⟩:=ltLw hords.sl hlt
  obtain⟨r,hr⟩:∃r,ls[k]? =some r:=⟨ls[k]'(by have:=Hln.out;omega),List.getElem?_eq_getElem _⟩
  have hrm:=List.mem_of_getElem? hr
  have hon:=Hoo.out.2 k r o hr hx
  have hrl:=(HN.out.pan.rows r hrm).len
  have h15:1<=r.n/\r.n<=5:=by have:=Hok.out.n1 r hrm;omega
  have Hr:=Lib.hid hr
  have Hhon:=Lib.hid hon
  have H15:=Lib.hid h15
  have Hx1:=Lib.hid (Hok.out.x1 r hrm)
  have Hlast:=Lib.hid (show seamsTo ls ords (k+1)=seamsTo ls ords k++[seamsL r.xs o.xs (r.n-1)]by rw[seamsTo_succ,xsOf_get hr,xsOf_get hx,show r.xs.length=r.n from hrl])
  have Hos:=Lib.hid (HO.out.rows o (List.mem_of_getElem? hx))
  have i1:(k:Int)<(on:Int):=by omega
  have i2:(0:Int)<=(k:Int):=by omega
  have i3:IntKind.i64.wrap ((k:Int)+1)=(k:Int)+1:=by rw[IntKind.wrap_i64];omega
  have Hkq:=Lib.hid (show k+q=on/\k<on from⟨hkq,hlt⟩)
  clear hx hr hrm hon hrl h15 hkq hlt hords
  go_wp2_with fail
  refine(isOrder_ok T k LA on lc ls r o.A o.n o.c o.xs _ (HN.out.later HJ.out.bel) Hr.out H15.out (Hos.out.later HJ.out.bel) Hhon.out).mono ?_
  rintro e w3⟨rfl,hb⟩
  have HJ2:=Lib.hid (HJ.out.later hb)
  clear hb HJ y0 hob
  go_wp2_with fail
  refine(seams_ok T k LA on lc ls r o.A o.n o.c o.xs _ (HN.out.later HJ2.out.bel) Hr.out H15.out Hx1.out (Hos.out.later HJ2.out.bel) Hhon.out).mono ?_
  rintro e w4⟨A1,c1,rfl,hb,hown⟩
  have hsl:=seamsL_len r.xs o.xs (r.n-1)
  have HJ3:=Lib.hid (HJ2.out.later hb)
  have Hown:=Lib.hid (own_low hown HJ2.out.bel.size)
  have hll:L.length=k:=by have h:=congrArg List.length HL.out;simpa[seamsTo]using h
  have hln:=seamsL_len r.xs o.xs (r.n-1)
  obtain⟨zs,hzs⟩:∃zs,seamsL r.xs o.xs (r.n-1)=zs:=⟨_,rfl⟩
  rw[hzs]at Hown Hlast hln
  have HL1:=Lib.hid (show(L++[(⟨A1,r.n-1,c1,zs⟩:Lw)]).map (·.xs)=seamsTo ls ords (k+1)by rw[List.map_append,HL.out,Hlast.out];rfl)
  have Hn:=Lib.hid hln.symm
  obtain⟨m,hm⟩:∃m,r.n-1=m:=⟨_,rfl⟩
  rw[hm]at Hown HL1 Hn ⊢
  obtain⟨i0,hi0,hz0,hz1,hz2⟩:=info_parts info_row
  have HRa:=Lib.hid (HJ3.out.later (balloc (brefl w4) (.cells #[.slice A1 m c1] 35)))
  have Ha:=Lib.hid (own_later Hown.out (balloc (brefl w4) (.cells #[.slice A1 m c1] 35)))
  have zb:=HJ3.out.bel.size
  have Hll:=Lib.hid hll
  have hl4:L.length<=4:=by omega
  clear hb hown hsl hln hzs hm hll HJ2 HJ3 Hown Hlast HL
  go_wp2_with (at_builtin;refine wpList_append_own _ rfl _ _ 40 rfl w2.heap.size 35 i0 (.slice none 0 0) 1 24 und_rows hi0 hz0 hz1 hz2 rfl (by decide) v L.length _ rfl HRa.out.out.own ⟨w4.heap.size,0,none⟩ 1 1 [.slice A1 m c1] rfl rfl (one_new _ _ _) (by simp[Value.oneCell']) (by simp only[maxLen];omega) (by omega) (by simp;omega) ?_;intro v' W3 hown' hgr _;have HR4:=Lib.hid (HRa.out.grown (r:=⟨A1,m,c1,zs⟩) Ha.out Hn.out hgr hown');clear hown' hgr)
  refine hK _ _ (q-1) (by have:=Hkq.out;omega) ⟨rfl,k+1,v',L++[⟨A1,m,c1,zs⟩],by have:=Hkq.out;omega,HR4,HL1,?_⟩
  repeat (first|exact fits_nil|refine fits_none ?_|refine fits_some ?_)
 ·obtain rfl:k=on:=by omega
  have i7:¬((k:Int)<(k:Int)):=by omega
  obtain⟨A,c,rfl,hpan⟩:=HJ.out.out.fill
  have HB2:=Lib.hid (Below.later HB.out HJ.out.bel)
  have HP:=Lib.hid hpan
  have HL2:=Lib.hid (show L.map (·.xs)=seamsTo ls ords ls.length by rw[HL.out,Hln.out])
  clear hK hlt hkq HJ hpan
  go_wp2_with fail
  go_ret2
  exact⟨A,c,L,rfl,HB2.out,HP.out,HL2.out⟩
set_option maxRecDepth 100000 in
theorem Seams_ok(LA:Option Addr)(ln lc:Nat)(ls:List Lw)(OA:Option Addr)(on oc:Nat)(ords:List Lw)(w:World)(hp:PanIn w LA ln lc ls)(hok:PanOk ls)(ho:PanIn w OA on oc ords)(hoo:OrdsOk ls ords):
 Calls Tryz.prog 10 #[.agg #[.slice LA ln lc],.slice OA on oc] w λe w'=>∃A c L,e=.returned (.tuple #[.slice A L.length c,.int .i64 0])/\Below w.heap.size w w'/\PanIn w' A L.length c L/\L.map (·.xs)=seamsTo ls ords ls.length:=by
 have Hb0:=Lib.hid (balloc (brefl w) (.cells #[.slice LA ln lc] 44))
 have Hj:=Lib.hid (joined_ok LA ln lc ls OA on oc ords _ (hp.later Hb0.out) hok (ho.later Hb0.out) hoo)
 have c0:(w.alloc (.cells #[.slice LA ln lc] 44)).cell? ⟨w.heap.size,0,none⟩=some (.slice LA ln lc):=by simp
 clear hp hok ho hoo
 go_enter Tryz.func10,Tryz.ntmps10
 go_wp2_with fail
 refine Hj.out.mono ?_
 rintro e w2⟨A,c,L,rfl,hb,hP,hL⟩
 have HB:=Lib.hid (Below.later Hb0.out hb)
 have HP:=Lib.hid hP
 have HL:=Lib.hid hL
 clear hb hP hL c0 Hj Hb0
 go_wp2
 go_ret2
 exact⟨A,c,L,rfl,HB.out,HP.out,HL.out⟩
set_option maxRecDepth 100000 in
theorem HasLong_any(A:Option Addr)(n c:Nat)(xs:List Int)(x:Int)(w:World)(hs:Sl 1 encI w w.heap.size A n c xs):
 Calls Tryz.prog 12 #[.slice A n c,.int .i64 x] w λe w'=>e=.returned (.bool (xs.any λy=>y==x))/\Below w.heap.size w w':=by
 have hl:=hs.len
 have hcap:=hs.cap
 have hbig:=hs.big
 have Hs:=Lib.hid hs
 have Hl:=Lib.hid hl
 clear hs hl
 go_enter Tryz.func12,Tryz.ntmps12
 go_wp2_with fail
 refine loop_n (λq a W=>a.defers=[]/\W=w/\∃(k:Nat),k+q=n/\Hid ((xs.take k).any (λy=>y==x)=false)/\Fits (some (.slice A n c)::some (.int .i64 x)::none::none::some (.bool false)::some (.int .i64 (k:Nat))::none::none::none::none::none::none::none::none::none::none::none::none::[]) a.tmps.toList) n ?_ ?_
 ·refine⟨rfl,rfl,0,by omega,Lib.hid (by simp),?_⟩
  repeat (first|exact fits_nil|refine fits_none ?_|refine fits_some ?_)
 intro q a W hI K1 hK
 obtain⟨hds,rfl,k,hkq,HA,hfit⟩:=hI
 obtain⟨f',hf'⟩:=fits_act hfit
 rw[hds]at hf'
 subst hf'
 clear hfit hds
 simp only[fillP,Nat.reduceAdd]
 by_cases hlt:k<n
 ·obtain⟨b,o,y,rfl,hb,hx,y0⟩:=Hs.out.ltI hlt
  have hgl:=(List.getElem?_eq_some_iff.1 hx)
  have Htk:=Lib.hid (show xs.take (k+1)=xs.take k++[y]by obtain⟨h1,h2⟩:=hgl;rw[List.take_succ_eq_append_getElem h1,h2])
  have Hin:=Lib.hid (List.mem_of_getElem? hx)
  have i1:(k:Int)<(n:Int):=by omega
  have i2:(0:Int)<=(k:Int):=by omega
  have i3:IntKind.i64.wrap ((k:Int)+1)=(k:Int)+1:=by unfold maxLen at hbig;rw[IntKind.wrap_i64];omega
  have Hkq:=Lib.hid hkq
  clear hx hgl hkq
  cases he:(y==x)with
  |true=>
   have hany:(xs.any λy=>y==x)=true:=List.any_eq_true.2 ⟨y,Hin.out,he⟩
   have Hany:=Lib.hid hany
   clear hany Hin
   go_wp2_with fail
   go_ret
   exact⟨by rw[Hany.out];rfl,brefl W⟩
  |false=>
   have HA2:=Lib.hid (show(xs.take (k+1)).any (λy=>y==x)=false by rw[Htk.out,List.any_append,HA.out];simpa using he)
   clear Htk Hin HA
   go_wp2_with fail
   refine hK _ _ (q-1) (by have:=Hkq.out;omega) ⟨rfl,rfl,k+1,by have:=Hkq.out;omega,HA2,?_⟩
   repeat (first|exact fits_nil|refine fits_none ?_|refine fits_some ?_)
 ·obtain rfl:k=n:=by omega
  have i7:¬((k:Int)<(k:Int)):=by omega
  have hany:=HA.out
  rw[List.take_of_length_le (by have:=Hl.out;omega)]at hany
  have Hany:=Lib.hid hany
  clear hany HA hK hlt hkq
  go_wp2_with fail
  go_ret
  exact⟨by rw[Hany.out];rfl,brefl W⟩
end Go.Proofs.YtlclnbhjjdcnkaaGreatDoor.Sm
namespace Go.Proofs.YtlclnbhjjdcnkaaGreatDoor.C
open Go.RowKit
theorem Strips.congr{S S':Nat->Nat->Prop}{a:Nat}{st:List Int}{M:Nat->Int}(h:Strips S a st M)(e:∀c d,S c d↔S' c d):Strips S' a st M:=by
 have:S=S':=by
  funext c d
  exact propext (e c d)
 exact this▸h
def shTo(ks:List Kd)(l:List Sh)(i:Nat):Nat->Nat->Prop:=λc d=>∃s∈l.take i,s.f=(c:Int)/\s.f+(ks.getD s.k.toNat ⟨0,0,0⟩).w=(d:Int)
def moreS(a b:Nat):List Int:=if a<b then [(b:Int)-a]else []
structure Pl(L:Nat)(F:Nat->Int)(ks:List Kd)(l:List Sh)(i at_:Nat)(st:List Int)(M:Nat->Int):Prop where
 str:Strips (shTo ks l i) at_ st M
 good:i<=l.length->GoodL L F ks at_ (l.drop i)
 le:at_<=L
 done:i=l.length+1->at_=L
section
variable{L:Nat}{F:Nat->Int}{ks:List Kd}{l:List Sh}{i at_:Nat}{st:List Int}{M:Nat->Int}
theorem Pl.start(h:GoodL L F ks 0 l):Pl L F ks l 0 0 [] (λ_=>0):=
 ⟨strips_start.congr λc d=>by simp[shTo],λ_=>by simpa using h,Nat.zero_le _,λh=>by omega⟩
theorem Strips.more{S:Nat->Nat->Prop}{a b:Nat}(h:Strips S a st M)(hab:a<=b):Strips S b (st++moreS a b) (wasteTo M a b):=by
 unfold moreS
 by_cases e:a<b
 ·rw[if_pos e];exact h.waste e
 ·obtain rfl:a=b:=by omega
  rw[if_neg e,List.append_nil,wasteTo_self]
  exact h
theorem good_cons{a:Nat}{s:Sh}(h:GoodL L F ks a (s::l)):∃(f k:Nat)(x:Kd),s=⟨f,k⟩/\a<=f/\ks[k]? =some x/\canB L F x f=true/\GoodL L F ks (f+x.w.toNat) l:=by
 cases h with
 |cons _ f k x _ h1 h2 h3 h4=>exact⟨f,k,x,rfl,h1,h2,h3,h4⟩
theorem Pl.next(hk:KOk ks)(h:Pl L F ks l i at_ st M){s:Sh}(hs:l[i]? =some s):∃(f k:Nat)(x:Kd),s=⟨f,k⟩/\ks[k]? =some x/\at_<=f/\1<=x.w/\f+x.w.toNat<=L/\Pl L F ks l (i+1) (f+x.w.toNat) (st++moreS at_ f++[x.w]) (wasteTo M at_ f):=by
 obtain⟨hi,hse⟩:=List.getElem?_eq_some_iff.1 hs
 have hg:=h.good (by omega)
 rw[List.drop_eq_getElem_cons hi,hse]at hg
 obtain⟨f,k,x,rfl,h1,h2,h3,h4⟩:=good_cons hg
 have hbd:=hk.bd h2
 have hle:=(canB_iff.1 h3).1
 have hle:(f:Int)+x.w<=L:=hle
 have hgd:ks.getD k ⟨0,0,0⟩=x:=by simp[List.getD,h2]
 refine⟨f,k,x,rfl,h2,h1,by omega,by omega,?_,λ_=>h4,by omega,λe=>by omega⟩
 have h5:=(h.str.more h1).sheet (b:=f+x.w.toNat) (by omega)
 have e1:((f+x.w.toNat:Nat):Int)-(f:Int)=x.w:=by omega
 rw[e1]at h5
 refine h5.congr λc d=>?_
 unfold shTo
 rw[List.take_succ_eq_append_getElem hi,hse]
 simp only[List.mem_append,List.mem_singleton]
 constructor
 ·rintro(⟨s,hs,h6⟩|⟨rfl,rfl⟩)
  ·exact⟨s,.inl hs,h6⟩
  ·refine⟨_,.inr rfl,rfl,?_⟩
   simp only[Int.toNat_natCast,hgd]
   omega
 ·rintro⟨s,hs|rfl,h6,h7⟩
  ·exact .inl ⟨s,hs,h6,h7⟩
  ·simp only[Int.toNat_natCast,hgd]at h6 h7
   exact .inr ⟨by omega,by omega⟩
theorem Pl.last(h:Pl L F ks l i at_ st M)(hi:i=l.length):Pl L F ks l (i+1) L (st++moreS at_ L) (wasteTo M at_ L):=by
 refine⟨(h.str.more h.le).congr λc d=>?_,λh=>by omega,Nat.le_refl _,λ_=>rfl⟩
 unfold shTo
 rw[List.take_of_length_le (by omega),List.take_of_length_le (by omega)]
theorem Pl.place(hk:KOk ks){A Bh:Nat->Int}(hA:UpTo L F ks A)(hB:From L F ks Bh)(hl:GoodL L F ks 0 l)(hv:valL ks l=Bh 0)(h:Pl L F ks l (l.length+1) at_ st M){p:Nat}(h1:0<p)(h2:p<L):
 (partedP L F ks A Bh p).2=0/\((seamsF st).any (λx=>x==(p:Int))=true->(partedP L F ks A Bh p).1≠0)/\((partedP L F ks A Bh p).1=2->(seamsF st).any (λx=>x==(p:Int))=false->M (p-1)=1/\M p=1):=by
 obtain rfl:=h.done rfl
 obtain⟨g1,g2,g3⟩:=parted_cuts hk hA hB hl hv (p:=p) (by omega)
 have hsi:=seam_iff h.str h1 h2
 have hall:l.take (l.length+1)=l:=List.take_of_length_le (by omega)
 have hend:∀s∈l,∃c d:Nat,s.f=(c:Int)/\s.f+(ks.getD s.k.toNat ⟨0,0,0⟩).w=(d:Int):=λs hs=>by
  obtain⟨f,k,x,u,v,rfl,hx,hc,_⟩:=hl.at_ hk s hs
  have hbd:=hk.bd hx
  have hgd:ks.getD k ⟨0,0,0⟩=x:=by simp[List.getD,hx]
  refine⟨f,f+x.w.toNat,rfl,?_⟩
  simp only[Int.toNat_natCast,hgd]
  omega
 refine⟨g1,λho=>g2 λs hs hx=>?_,λe ho=>?_⟩
 ·obtain⟨j,hj,hjs⟩:=hsi.1 ho
  obtain⟨c,d,hc,hd⟩:=hend s hs
  have:=h.str.bnd j hj c d ⟨s,by rw[hall];exact hs,hc,hd⟩
  rw[hjs]at this
  omega
 ·rcases h.str.cov p h1 h2 with hb|⟨c,d,⟨s,hs,hc,hd⟩,h3,h4⟩|hm
  ·rw[hsi.2 hb]at ho
   cases ho
  ·rw[hall]at hs
   exact absurd e (g3 ⟨s,hs,by omega,by omega⟩)
  ·exact hm
end
end Go.Proofs.YtlclnbhjjdcnkaaGreatDoor.C
namespace Go.Proofs.YtlclnbhjjdcnkaaGreatDoor.Sm
def idL(n:Nat):List Int:=(List.range n).map λi:Nat=>(i:Int)
theorem idL_len(n:Nat):(idL n).length=n:=by simp[idL]
theorem idL_succ(n:Nat):idL (n+1)=idL n++[(n:Int)]:=by simp[idL,List.range_succ]
theorem idL_ok(n:Nat):OrdOk n (idL n):=by
 refine⟨idL_len n,λo ho=>?_,?_⟩
 ·obtain⟨j,hj,rfl⟩:=List.mem_map.1 ho
  have:=List.mem_range.1 hj
  omega
 ·unfold idL
  rw[List.nodup_iff_pairwise_ne,List.pairwise_map]
  exact List.nodup_range.imp λh e=>h (by omega)
theorem atS_id{st:List Int}{n j:Nat}(hn:n=st.length)(hj:j<=n):atS st (idL n) j=(st.take j).sum:=by
 induction j with
 |zero=>simp[atS]
 |succ j ih=>
  have h1:(idL n)[j]? =some (j:Int):=by simp[idL,show j<n by omega]
  have h2:st[j]? =some (st[j]'(by omega)):=List.getElem?_eq_getElem _
  rw[atS_succ h1 h2,ih (by omega),List.take_succ_eq_append_getElem (by omega),List.sum_append]
  simp
theorem seams_id(st:List Int):seamsL st (idL st.length) (st.length-1)=C.seamsF st:=by
 unfold seamsL C.seamsF
 refine List.map_congr_left λj hj=>?_
 have:=List.mem_range.1 hj
 exact atS_id rfl (by omega)
end Go.Proofs.YtlclnbhjjdcnkaaGreatDoor.Sm
