/- Patch: mend. -/
import Derived.Test.YtifehdoghfnhoaaGreatDoorZPbI
import Derived.Maps.OwnSet
import Derived.Test.YtifehdoghfnhoaaGreatDoorZEvLg
import Derived.WalkMore
namespace Go.Proofs.YtifehdoghfnhoaaGreatDoor.Pa
open Go.RowKit Go.Shelf Go.Maps Go.Proofs.YtifehdoghfnhoaaGreatDoor.C
def fieldW(x:Wy):Nat->Nat
 |0=>x.m
 |1=>x.c
 |_=>x.f
def wayF(F:Nat->Wy)(j:Nat):Int:=((fieldW (F (j / 3)) (j % 3):Nat):Int)
def wayArr(E:Nat)(F:Nat->Wy):Array Value:=C.numArr (E*3) (wayF F)
def updW(F:Nat->Wy)(i:Nat)(x:Wy):Nat->Wy:=λk=>if k=i then x else F k
theorem updW_at(F:Nat->Wy)(i:Nat)(x:Wy):updW F i x i=x:=by unfold updW;rw[if_pos rfl]
theorem updW_ne{F:Nat->Wy}{i k:Nat}{x:Wy}(h:k≠i):updW F i x k=F k:=by unfold updW;rw[if_neg h]
theorem updW_twice(F:Nat->Wy)(i:Nat)(x y:Wy):updW (updW F i x) i y=updW F i y:=by
 funext k
 unfold updW
 split<;>rfl
theorem wayArr_get{E i:Nat}{F:Nat->Wy}(h:i<E):(wayArr E F)[i*3]? =some (.int .i64 ((F i).m:Nat))/\(wayArr E F)[i*3+1]? =some (.int .i64 ((F i).c:Nat))/\(wayArr E F)[i*3+2]? =some (.int .i64 ((F i).f:Nat)):=by
 refine⟨?_,?_,?_⟩
 ·rw[wayArr,C.numArr_get (by omega),wayF,show i*3 / 3=i by omega,show i*3 % 3=0 by omega]
  rfl
 ·rw[wayArr,C.numArr_get (by omega),wayF,show(i*3+1) / 3=i by omega,show(i*3+1) % 3=1 by omega]
  rfl
 ·rw[wayArr,C.numArr_get (by omega),wayF,show(i*3+2) / 3=i by omega,show(i*3+2) % 3=2 by omega]
  rfl
theorem wayF_upd{F:Nat->Wy}{i:Nat}{x:Wy}(j:Nat):wayF (updW F i x) j=if j=i*3 then((x.m:Nat):Int)else if j=i*3+1 then((x.c:Nat):Int)else if j=i*3+2 then((x.f:Nat):Int)else wayF F j:=by
 unfold wayF
 by_cases h0:j=i*3
 ·rw[if_pos h0,show j / 3=i by omega,show j % 3=0 by omega,updW_at]
  rfl
 ·rw[if_neg h0]
  by_cases h1:j=i*3+1
  ·rw[if_pos h1,show j / 3=i by omega,show j % 3=1 by omega,updW_at]
   rfl
  ·rw[if_neg h1]
   by_cases h2:j=i*3+2
   ·rw[if_pos h2,show j / 3=i by omega,show j % 3=2 by omega,updW_at]
    rfl
   ·rw[if_neg h2,updW_ne (by omega)]
theorem wayArr_put(E i:Nat)(F:Nat->Wy)(x:Wy):(((wayArr E F).setIfInBounds (i*3) (.int .i64 (x.m:Nat))).setIfInBounds (i*3+1) (.int .i64 (x.c:Nat))).setIfInBounds (i*3+2) (.int .i64 (x.f:Nat))=wayArr E (updW F i x):=by
 simp only[wayArr,C.numArr_set]
 congr 1
 funext j
 rw[wayF_upd]
 unfold C.upd
 by_cases h2:j=i*3+2
 ·rw[if_pos h2,if_neg (by omega),if_neg (by omega),if_pos h2]
 ·rw[if_neg h2]
  by_cases h1:j=i*3+1
  ·rw[if_pos h1,if_neg (by omega),if_pos h1]
  ·rw[if_neg h1]
   by_cases h0:j=i*3
   ·rw[if_pos h0,if_pos h0]
   ·rw[if_neg h0,if_neg h0,if_neg h1,if_neg h2]
theorem wayArr_many(E i:Nat)(F:Nat->Wy)(m:Nat):(wayArr E F).setIfInBounds (i*3) (.int .i64 (m:Nat))=wayArr E (updW F i ⟨m,(F i).c,(F i).f⟩):=by
 simp only[wayArr,C.numArr_set]
 congr 1
 funext j
 rw[wayF_upd]
 unfold C.upd
 by_cases h0:j=i*3
 ·rw[if_pos h0,if_pos h0]
 ·rw[if_neg h0,if_neg h0]
  by_cases h1:j=i*3+1
  ·rw[if_pos h1,wayF,show j / 3=i by omega,show j % 3=1 by omega]
   rfl
  ·rw[if_neg h1]
   by_cases h2:j=i*3+2
   ·rw[if_pos h2,wayF,show j / 3=i by omega,show j % 3=2 by omega]
    rfl
   ·rw[if_neg h2]
theorem ways_made(n:Nat):madeCells #[Value.int .i64 0,.int .i64 0,.int .i64 0] (n*3)=wayArr n (λ_=>zW):=by
 apply Array.ext
 ·simp[madeCells,wayArr,C.numArr]
 ·intro i h1 h2
  have hz:∀k,fieldW zW k=0:=λk=>by
   rcases k with _|_|k<;>rfl
  rcases(show i % 3=0\/i % 3=1\/i % 3=2 by omega)with h|h|h<;>simp[madeCells,wayArr,C.numArr,wayF,h,hz]
theorem info_way:(Tryz.prog.info? 158).map (λi=>(i.zero,i.size,i.bytes))=some (some (.agg #[.int .i64 0,.int .i64 0,.int .i64 0]),3,24):=by kernel_rfl
theorem und_ways:Tryz.prog.underlying 154=some (.slice 158):=by kernel_rfl
theorem make_ways(n:Nat)(hn:n<=1024)(W:World):
 (Instr.makeSlice 154 (.int .i64 n) (.int .i64 n)).run Tryz.prog W=.ok (.slice (some ⟨W.heap.size,0,none⟩) n n) (W.alloc (.cells (wayArr n (λ_=>zW)) 158)):=by
 obtain⟨i0,hi,hz0,hz1,hz2⟩:=info_parts info_way
 have h:=run_make (P:=Tryz.prog) W 154 158 i0 (.agg #[.int .i64 0,.int .i64 0,.int .i64 0]) und_ways hi hz0 .i64 .i64 n n (by omega) (Int.le_refl _) (by rw[hz2];omega) (by omega)
 rw[hz1]at h
 rw[<-ways_made]
 simpa[Value.cells]using h
theorem zero_int(W:World):(zeroValue 3).run Tryz.prog W=.ok (.int .i64 0) W:=by
 have h:(Tryz.prog.info? 3).map (λi=>i.zero)=some (some (.int .i64 0)):=by kernel_rfl
 cases hi:Tryz.prog.info? 3 with
 |none=>simp[hi]at h
 |some i=>
  simp only[hi,Option.map_some,Option.some.injEq]at h
  simp[zeroValue,typeInfo,hi,h]
theorem grown_set(W:World)(b o:Nat)(v:Value):W.grownBy (W.setCell ⟨b,o,none⟩ v) (some b):=
 ⟨rfl,rfl,rfl,(KeepsWalks.setCell W _ v).size,λk _ hk=>Below.heap_setCell _ _ _ k (λe=>hk (by rw[e]))⟩
structure MW(p:BP)(T M n:Nat)(D:DM)(G E:Nat)(F:Nat->Wy)(w W:World):Prop where
 bel:Below w.heap.size w W
 be:Be p T w
 own:OwnsS W M n D
 mp:MapS D (λf=>(0<f/\f<2^p.ks.length)/\lieN p f=0) (wtN p)
 blk:Blk W G 158 (wayArr E F)
 hM:w.heap.size<=M
 hG:M<G
section
variable{p:BP}{T M n G E:Nat}{D:DM}{F F':Nat->Wy}{w W W':World}
theorem MW.later(h:MW p T M n D G E F w W)(hb:Below W.heap.size W W'):MW p T M n D G E F w W':=⟨Below.later h.bel hb,h.be,h.own.kept (grown_none hb) (by simp),h.mp,h.blk.later hb,h.hM,h.hG⟩
theorem MW.cells(h:MW p T M n D G E F w W){i:Nat}(hi:i<E):W.cell? ⟨G,i*3,none⟩=some (.int .i64 ((F i).m:Nat))/\W.cell? ⟨G,i*3+1,none⟩=some (.int .i64 ((F i).c:Nat))/\W.cell? ⟨G,i*3+2,none⟩=some (.int .i64 ((F i).f:Nat))/\G<W.heap.size:=by
 obtain⟨h1,h2,h3⟩:=wayArr_get (E:=E) (F:=F) hi
 exact⟨(h.blk.cell _).trans h1,(h.blk.cell _).trans h2,(h.blk.cell _).trans h3,h.blk.lt⟩
theorem MW.kn(h:MW p T M n D G E F w W):W.cell? ⟨T,2,none⟩=some (.slice p.KA p.ks.length p.kc)/\T<W.heap.size:=⟨(h.bel.cell (p:=⟨T,2,none⟩) h.be.kn.lt).trans h.be.kn.c2,Nat.lt_of_lt_of_le h.be.kn.lt h.bel.size⟩
theorem MW.store(h:MW p T M n D G E F w W)(o:Nat)(v:Value)(hb:Blk (W.setCell ⟨G,o,none⟩ v) G 158 (wayArr E F')):MW p T M n D G E F' w (W.setCell ⟨G,o,none⟩ v):=by
 have hM:=h.hM
 have hG:=h.hG
 exact⟨h.bel.setCell (p:=⟨G,o,none⟩) (show w.heap.size<=G by omega) _,h.be,h.own.kept (grown_set W G o v) (by simp;omega),h.mp,hb,hM,hG⟩
theorem MW.many(h:MW p T M n D G E F w W)(i m:Nat):MW p T M n D G E (updW F i ⟨m,(F i).c,(F i).f⟩) w (W.setCell ⟨G,i*3,none⟩ (.int .i64 (m:Nat))):=by
 refine h.store _ _ ?_
 have:=h.blk.set (i*3) (.int .i64 (m:Nat))
 rwa[wayArr_many]at this
theorem MW.put(h:MW p T M n D G E F w W)(i:Nat)(x:Wy):MW p T M n D G E (updW F i x) w (((W.setCell ⟨G,i*3,none⟩ (.int .i64 (x.m:Nat))).setCell ⟨G,i*3+1,none⟩ (.int .i64 (x.c:Nat))).setCell ⟨G,i*3+2,none⟩ (.int .i64 (x.f:Nat))):=by
 have hM:=h.hM
 have hG:=h.hG
 have hb:=((h.blk.set (i*3) (.int .i64 (x.m:Nat))).set (i*3+1) (.int .i64 (x.c:Nat))).set (i*3+2) (.int .i64 (x.f:Nat))
 rw[wayArr_put]at hb
 refine⟨((h.bel.setCell (p:=⟨G,i*3,none⟩) (show w.heap.size<=G by omega) _).setCell (p:=⟨G,i*3+1,none⟩) (show w.heap.size<=G by omega) _).setCell (p:=⟨G,i*3+2,none⟩) (show w.heap.size<=G by omega) _,h.be,?_,h.mp,hb,hM,hG⟩
 have e:some M≠some G:=by simp;omega
 exact((h.own.kept (grown_set _ _ _ _) e).kept (grown_set _ _ _ _) e).kept (grown_set _ _ _ _) e
theorem MW.look(h:MW p T M n D G E F w W){f:Nat}(h0:0<f)(hf:f<2^p.ks.length)(h10:p.ks.length<=10):
 (Instr.lookup 152 (.map (some M)) (.agg #[.int .i64 (f:Nat)]) true).run Tryz.prog W=.ok (.tuple #[.int .i64 ((if lieN p f=0 then wtN p f else 0:Nat):Int),.bool (lieB p f)]) W:=by
 have hf':f<1024:=Nat.lt_of_lt_of_le hf (pow_le_1024 h10)
 obtain⟨v,ps,hrun,hv⟩:=h.own.look_ok keyed_set und_mset (zero_int W) (zd:=.lit (.int .i64 0)) (zp:=[]) (elem_int 0 (by decide)) (keyS_of f hf')
 obtain⟨cv,rfl,hy,hwf⟩:=plainElem_int_inv und_int_ hv
 rw[hrun]
 by_cases hl:lieN p f=0
 ·obtain⟨y1,y2⟩:=h.mp.yes f ⟨⟨h0,hf⟩,hl⟩
  rw[y2]at hy
  simp only[Prod.mk.injEq,DataW.lit.injEq,Lit.int.injEq,true_and]at hy
  have e:lieB p f=true:=by unfold lieB;rw[hl];rfl
  rw[y1,if_pos hl,e,hy.1]
 ·have hn:has D (keyS f)=false:=by
   cases hh:has D (keyS f)with
   |false=>rfl
   |true=>
    obtain⟨f',e,hs,hl'⟩:=h.mp.only _ hh
    have:=keyS_inj hf' (Nat.lt_of_lt_of_le hs.2 (pow_le_1024 h10)) e
    subst this
    exact absurd hl' hl
  rw[atKey_of_not_has hn]at hy
  simp only[Prod.mk.injEq,DataW.lit.injEq,Lit.int.injEq,true_and]at hy
  have e:lieB p f=false:=by
   unfold lieB
   cases hh:Nat.beq (lieN p f) 0 with
   |false=>rfl
   |true=>exact absurd (Nat.eq_of_beq_eq_true hh) hl
  rw[hn,if_neg hl,e,<-hy.1]
  rfl
end
theorem and_i64(a b:Nat)(ha:a<1024)(hb:b<1024):bits .and .i64 (a:Int) (b:Int)=((a &&& b:Nat):Int):=
 (bits_nat .i64 63 (by decide) (λn h0 h1=>by rw[IntKind.wrap_i64];omega) a b (by omega) (by omega)).1
def negB:Nat->Bool
 |0=>true
 |k+1=>decide (bits .and .i64 ((k:Nat):Int) (-((k:Nat):Int))=((lowN k:Nat):Int))&&negB k
theorem negB_is:∀{n k:Nat},negB n=true->k<n->bits .and .i64 ((k:Nat):Int) (-((k:Nat):Int))=((lowN k:Nat):Int)
 |0,_,_,h=>by omega
 |n+1,k,h,hk=>by
  simp only[negB,Bool.and_eq_true,decide_eq_true_eq]at h
  by_cases e:k=n
  ·rw[e];exact h.1
  ·exact negB_is h.2 (by omega)
theorem neg_1024:negB 1024=true:=by kernel_rfl
theorem and_neg(k:Nat)(h:k<1024):bits .and .i64 ((k:Nat):Int) (-((k:Nat):Int))=((lowN k:Nat):Int):=negB_is neg_1024 h
theorem bv_rest(a b:BitVec 64):a &&& ~~~b=a^^^(a &&& b):=by
 ext i hi
 simp only[BitVec.getElem_and,BitVec.getElem_not,BitVec.getElem_xor]
 cases a[i]<;>cases b[i]<;>rfl
theorem rest_le(a b:Nat):restN a b<=a:=sub_le (rest_sub a b)
theorem andNot_i64(a b:Nat)(ha:a<1024)(hb:b<1024):bits .andNot .i64 (a:Int) (b:Int)=((restN a b:Nat):Int):=by
 have e:(BitVec.ofInt 64 (a:Int) &&& ~~~ (BitVec.ofInt 64 (b:Int))).toNat=restN a b:=by
  rw[bv_rest,BitVec.ofInt_natCast,BitVec.ofInt_natCast,BitVec.toNat_xor,BitVec.toNat_and,BitVec.toNat_ofNat,BitVec.toNat_ofNat,Nat.mod_eq_of_lt (by omega),Nat.mod_eq_of_lt (by omega)]
  rfl
 have hr:=rest_le a b
 show IntKind.i64.wrap (((BitVec.ofInt 64 (a:Int) &&& ~~~ (BitVec.ofInt 64 (b:Int))).toNat:Nat):Int)=_
 rw[e,IntKind.wrap_i64]
 omega
end Go.Proofs.YtifehdoghfnhoaaGreatDoor.Pa
namespace Go.Proofs.YtifehdoghfnhoaaGreatDoor.Pa
open Go.RowKit Go.Shelf Go.Maps Go.Proofs.YtifehdoghfnhoaaGreatDoor.C
def TwoW(x y:Wy)(v:Value)(W:World):Prop:=∃g,v=.slice (some ⟨g,0,none⟩) 2 2/\Blk W g 158 #[.int .i64 (x.m:Nat),.int .i64 (x.c:Nat),.int .i64 (x.f:Nat),.int .i64 (y.m:Nat),.int .i64 (y.c:Nat),.int .i64 (y.f:Nat)]
theorem TwoW.stab{x y:Wy}:∀v W W',Gr W W'->TwoW x y v W->TwoW x y v W':=λ_ _ _ hG⟨g,h1,h2⟩=>⟨g,h1,h2.later hG⟩
theorem getW_init(lies:Nat->Bool)(wt:Nat->Nat)(n:Nat):getW (waysL lies wt n 0)=λ_=>zW:=by
 funext b
 cases b with
 |zero=>rfl
 |succ b=>exact getW_past (by omega)
theorem getW_fin{lies:Nat->Bool}{wt:Nat->Nat}{n i:Nat}(h:0<i){c:Wy}(hc:goW lies wt (getW (waysL lies wt n (i-1))) i i i ⟨n+1,0,0⟩=c):updW (getW (waysL lies wt n (i-1))) i c=getW (waysL lies wt n i):=by
 obtain⟨k,rfl⟩:∃k,i=k+1:=⟨i-1,by omega⟩
 rw[Nat.add_sub_cancel]at hc ⊢
 funext b
 by_cases e:b=k+1
 ·rw[e,updW_at,getW_new,hc]
 ·rw[updW_ne e]
  by_cases hb:b<=k
  ·rw[getW_old hb]
  ·rw[getW_past (by omega),getW_past (by omega)]
theorem MW.grown{p:BP}{T M n G E:Nat}{D:DM}{F:Nat->Wy}{w W W':World}(h:MW p T M n D G E F w W){row:Option Nat}(hg:W.grownBy W' row)(hr:∀b,row=some b->G<b):MW p T M n D G E F w W':=by
 have hM:=h.hM
 have hG:=h.hG
 have hs:=h.bel.size
 exact⟨h.bel.trans ⟨hg.os,hg.tape,hg.output,hg.size,λi hi=>hg.block i (by omega) (λe=>by have:=hr i e.symm;omega)⟩,h.be,h.own.kept hg (λe=>by have:=hr M e.symm;omega),h.mp,h.blk.grown hg (λe=>by have:=hr G e;omega),hM,hG⟩
theorem useB_no{lies:Nat->Bool}{b part:Nat}(h:lies part=false\/part &&& lowN b=0):useB lies b part=false:=by
 unfold useB
 rcases h with h|h
 ·rw[h,Bool.and_false]
 ·rw[h];rfl
theorem useB_yes{lies:Nat->Bool}{b part:Nat}(h:lies part=true)(h2:part &&& lowN b≠0):useB lies b part=true:=by
 unfold useB
 rw[h]
 cases hh:Nat.beq (part &&& lowN b) 0 with
 |false=>rfl
 |true=>exact absurd (Nat.eq_of_beq_eq_true hh) h2
theorem stepW_no{lies:Nat->Bool}{wt:Nat->Nat}{W:Nat->Wy}{b part:Nat}{c:Wy}(h:useB lies b part=false):stepW lies wt W b part c=c:=by
 unfold stepW
 rw[h]
 rfl
theorem stepW_yes{lies:Nat->Bool}{wt:Nat->Nat}{W:Nat->Wy}{b part:Nat}{c:Wy}(h:useB lies b part=true):stepW lies wt W b part c=bestW c (nextW wt W b part):=by
 unfold stepW
 rw[h]
 rfl
theorem outW_succ{l:List Wy}{k b:Nat}(h:b≠0):outW l (k+1) b=(getW l b).f::outW l k (restN b (getW l b).f):=by
 have hq:Nat.beq b 0=false:=by
  cases b with
  |zero=>exact absurd rfl h
  |succ p=>rfl
 conv=>lhs;unfold outW
 rw[hq,cond_false]
theorem outW_zero(l:List Wy)(k:Nat):outW l k 0=[]:=by
 cases k with
 |zero=>rfl
 |succ k=>rfl
set_option maxRecDepth 100000 in
set_option maxHeartbeats 16000000 in
theorem mend_be(p:BP)(T:Nat)(w:World)(h:Be p T w)(hs:Singles (lieB p) p.ks.length):
 Calls Tryz.prog 42 #[.pointer (some ⟨T,0,none⟩)] w λe w'=>∃v,e=.returned v/\Below w.heap.size w w'/\w'.ownsRow w.heap.size 49 4 v (mendL (lieB p) (wtN p) p.ks.length).length (((mendL (lieB p) (wtN p) p.ks.length).map (leastP p.ks)).flatMap encPc):=by
 have n10:=h.n10
 have Hle:=Lib.hid (λW(hb:Below w.heap.size w W)sb h0 hn=>least_be p T sb W (h.later hb) h0 hn)
 have Hun:=Lib.hid (under_be p T w h)
 have Hbe:=Lib.hid h
 have Hwt:=Lib.hid (λf h0 hn=>wtN_le (p:=p) (sb:=f) h0 hn h.bd)
 have s1:=shl_i64 p.ks.length (by omega)
 have a1:=pow_le_1024 n10
 obtain⟨E,hE⟩:∃E,2^p.ks.length=E:=⟨_,rfl⟩
 have s2:((2:Int)^p.ks.length)=((2^p.ks.length:Nat):Int):=by simp
 rw[s2]at s1
 rw[hE]at s1 a1 s2
 have HE:=Lib.hid hE
 have E1:1<=E:=by rw[<-hE];exact Nat.two_pow_pos _
 have HL:=Lib.hid (λk b(hk:k<E)(hb:b<=k)=>left_ok hs n10 (λf h0 hn=>Hwt.out f h0 hn) (by rw[hE];exact hk) hb)
 have HO:=Lib.hid (λk b(hk:k<E)(h0:0<b)(hb:b<=k)=>ways_ok hs n10 (λf h0 hn=>Hwt.out f h0 hn) k (by rw[hE];exact hk) b h0 hb)
 have hmend:mendL (lieB p) (wtN p) p.ks.length=outW (waysL (lieB p) (wtN p) p.ks.length (E-1)) E (E-1):=by rw[<-hE];rfl
 have HMe:=Lib.hid hmend
 have hN:IntKind.i64.wrap ((p.ks.length:Int)+1)=((p.ks.length+1:Nat):Int):=by rw[IntKind.wrap_i64];omega
 have HN:=Lib.hid n10
 obtain⟨lies,hlies⟩:∃l,lieB p=l:=⟨_,rfl⟩
 obtain⟨wt,hwt⟩:∃l,wtN p=l:=⟨_,rfl⟩
 have Hli:=Lib.hid hlies
 have Hw:=Lib.hid hwt
 rw[hlies,hwt]at HL HO HMe ⊢
 rw[hwt]at Hwt
 rw[HMe.out]
 clear h hE hmend hs hlies hwt
 go_enter Tryz.func42,Tryz.ntmps42
 go_wp2_with fail
 refine Hun.out.mono ?_
 rintro e w1⟨M,n,D,rfl,hb1,hM,hown,hD⟩
 have hk1:w1.cell? ⟨T,2,none⟩=some (.slice p.KA p.ks.length p.kc):=(hb1.cell (p:=⟨T,2,none⟩) Hbe.out.kn.lt).trans Hbe.out.kn.c2
 have hk2:T<w1.heap.size:=Nat.lt_of_lt_of_le Hbe.out.kn.lt hb1.size
 have hMl:M<w1.heap.size:=by
  obtain⟨_,_,hb,_⟩:=hown
  exact(Array.getElem?_eq_some_iff.1 hb).1
 have hmk:=make_ways E a1 w1
 have HM0:=Lib.hid (show MW p T M n D w1.heap.size E (getW (waysL lies wt p.ks.length (1-1))) w (w1.alloc (.cells (wayArr E (λ_=>zW)) 158))from by
  rw[Nat.sub_self,getW_init]
  exact⟨hb1.alloc hb1.size _,Hbe.out,hown.alloc _,hD,Blk.new w1 _ _,hM,hMl⟩)
 obtain⟨G,hG⟩:∃G,w1.heap.size=G:=⟨_,rfl⟩
 clear hb1 hM hown hD hMl Hun
 go_wp2_with fail
 rw[hG]at HM0
 clear hmk hk1 hk2 hG s2
 refine lpn (λq a W=>a.defers=[]/\∃(i:Nat),1<=i/\i+q=E/\MW p T M n D G E (getW (waysL lies wt p.ks.length (i-1))) w W/\Fits (some (.pointer (some ⟨T,0,none⟩))::none::none::some (.map (some M))::some (.slice (some ⟨G,0,none⟩) E E)::some (.int .i64 (i:Nat))::none::none::none::none::none::none::none::none::none::none::none::none::none::none::none::none::none::none::none::none::none::none::none::none::none::none::none::none::none::none::none::none::none::none::none::none::none::none::none::none::none::none::none::none::none::none::none::none::none::none::none::none::none::none::none::none::none::none::none::none::none::none::none::none::none::none::none::none::none::none::none::none::none::none::none::none::none::none::none::none::none::none::none::none::none::none::none::none::none::none::none::none::none::none::none::none::none::none::none::none::none::none::none::none::none::[]) a.tmps.toList) (E-1) ?_ ?_
 ·refine⟨rfl,1,by omega,by omega,HM0.out,?_⟩
  repeat (first|exact ftL|refine ftN ?_|refine ftS ?_)
 clear HM0
 clear w1
 intro q a W hI K1 hK
 obtain⟨hds,i,h1,hiq,hMW,hfit⟩:=hI
 obtain⟨f',hf'⟩:=ftA hfit
 rw[hds]at hf'
 subst hf'
 clear hfit hds
 simp only[fillP,Nat.reduceAdd]
 have HMW:=Lib.hid hMW
 clear hMW
 by_cases hlt:i<E
 ·have i1:(i:Int)<(E:Int):=by omega
  have i2:(0:Int)<=(i:Int):=by omega
  have i3:IntKind.i64.wrap ((i:Int)+1)=((i+1:Nat):Int):=by rw[IntKind.wrap_i64];omega
  have Hi:=Lib.hid (show 1<=i/\i+q=E/\i<E/\E<=1024 from⟨h1,hiq,hlt,a1⟩)
  have hneg:IntKind.i64.wrap (-(i:Int))=-(i:Int):=by rw[IntKind.wrap_i64];omega
  have hlow:=and_neg i (by omega)
  obtain⟨low,hlw⟩:∃l,lowN i=l:=⟨_,rfl⟩
  rw[hlw]at hlow
  have hlowle:low<=i:=by rw[<-hlw];exact sub_le (bits_ok (by omega) (by omega)).sub
  have Hlw:=Lib.hid (show lowN i=low/\low<=i from⟨hlw,hlowle⟩)
  clear h1 hiq hlw hlowle
  obtain⟨k1,k2⟩:=HMW.out.kn
  obtain⟨c0,c1,c2,c3⟩:=HMW.out.cells Hi.out.2.2.1
  have f0:=HMW.out.blk.frozen (i*3)
  have HM1:=Lib.hid (show MW p T M n D G E (updW (getW (waysL lies wt p.ks.length (i-1))) i ⟨p.ks.length+1,0,0⟩) w (W.setCell ⟨G,i*3,none⟩ (.int .i64 ((p.ks.length+1:Nat):Int)))from by
   have h5:=HMW.out.many i (p.ks.length+1)
   have e:getW (waysL lies wt p.ks.length (i-1)) i=zW:=getW_past (by have:=Hi.out;omega)
   rw[e]at h5
   exact h5)
  go_wp2_with fail
  go_step3
  go_wp2_with fail
  go_step3
  go_wp2_with fail
  clear HMW k1 k2 c0 c1 c2 c3 f0
  simp only[Int.natCast_add,Int.cast_ofNat_Int]at HM1
  generalize W.setCell ⟨G,i*3,none⟩ (.int .i64 _)=W1 at HM1 ⊢
  refine lpn (λq2 a2 W2=>a2.defers=[]/\∃(k:Nat)(c:Wy),q2<=k/\q2 &&& i=q2/\CurOk lies p.ks.length i c/\goW lies wt (getW (waysL lies wt p.ks.length (i-1))) i k q2 c=goW lies wt (getW (waysL lies wt p.ks.length (i-1))) i i i ⟨p.ks.length+1,0,0⟩/\MW p T M n D G E (updW (getW (waysL lies wt p.ks.length (i-1))) i c) w W2/\Fits (some (.pointer (some ⟨T,0,none⟩))::none::none::some (.map (some M))::some (.slice (some ⟨G,0,none⟩) E E)::some (.int .i64 (i:Nat))::some (.int .i64 (q2:Nat))::none::none::none::none::none::none::none::none::none::none::none::none::none::none::none::none::none::none::none::none::none::none::none::none::none::none::none::none::none::none::none::none::none::none::none::none::none::none::none::none::none::none::none::none::none::none::none::none::none::none::none::none::none::none::none::none::none::none::none::none::none::none::none::none::none::none::none::none::none::none::none::none::none::none::none::none::none::none::none::none::none::none::none::none::none::none::none::none::none::none::none::none::none::none::none::none::none::none::none::none::none::none::none::none::[]) a2.tmps.toList) i ?_ ?_
  ·refine⟨rfl,i,⟨p.ks.length+1,0,0⟩,Nat.le_refl _,Nat.and_self _,⟨Nat.le_refl _,Nat.zero_le _,.inl ⟨rfl,rfl⟩⟩,rfl,HM1.out,?_⟩
   repeat (first|exact ftL|refine ftN ?_|refine ftS ?_)
  clear HM1
  clear W1 W
  intro part a2 W2 hI2 K2 hK2
  obtain⟨hds,k,c,hpk,hps,hc,hgo,hMW,hfit⟩:=hI2
  obtain⟨f',hf'⟩:=ftA hfit
  rw[hds]at hf'
  subst hf'
  clear hfit hds
  simp only[fillP,Nat.reduceAdd]
  have HMW:=Lib.hid hMW
  have HK:=Lib.hid (@hK)
  have HK2:=Lib.hid (@hK2)
  clear hMW hK hK2
  by_cases hp0:part=0
  ·subst hp0
   rw[goW_zero]at hgo
   have HG:=Lib.hid hgo
   clear hc hgo hpk hps
   go_wp2_with fail
   rw[Exit.noGoto_normal]
   go_wp2_with fail
   obtain⟨j1,j2,j3,j4⟩:=Hi.out
   have h6:=HMW.out
   rw[getW_fin (by omega) HG.out.symm]at h6
   refine HK.out _ _ (q-1) (by omega) ⟨rfl,i+1,by omega,by omega,by rw[Nat.add_sub_cancel];exact h6,?_⟩
   repeat (first|exact ftL|refine ftN ?_|refine ftS ?_)
  ·obtain⟨j1,j2,j3,j4⟩:=Hi.out
   have hpi:=sub_le hps
   have p1:(0:Int)<(part:Int):=by omega
   obtain⟨k,rfl⟩:∃k',k=k'+1:=⟨k-1,by omega⟩
   rw[goW_next (by omega)]at hgo
   have hlk:=HMW.out.look (f:=part) (by omega) (by rw[HE.out];omega) HN.out
   rw[Hli.out,Hw.out]at hlk
   have p2:IntKind.i64.wrap ((part:Int)-1)=((part-1:Nat):Int):=by rw[IntKind.wrap_i64];omega
   have p3:=and_i64 (part-1) i (by omega) (by omega)
   have p4:=and_i64 part low (by omega) (by have:=Hlw.out;omega)
   have hq':=next_lt (b:=i) (show 0<part by omega)
   have hqs:=next_sub i part
   obtain⟨q',hq2⟩:∃q',(part-1) &&& i=q':=⟨_,rfl⟩
   rw[hq2]at p3 hq' hqs hgo
   obtain⟨pm,hpm⟩:∃x,part-1=x:=⟨_,rfl⟩
   rw[hpm]at p2 p3
   obtain⟨pl,hpl⟩:∃x,part &&& low=x:=⟨_,rfl⟩
   rw[hpl]at p4
   have Hq:=Lib.hid (show q'<part/\q'<=k/\q' &&& i=q' from⟨hq',by omega,hqs⟩)
   have Hpl:=Lib.hid (show part &&& lowN i=pl by rw[Hlw.out.1,hpl])
   have Hps:=Lib.hid (show part &&& i=part/\0<part/\part<1024 from⟨hps,by omega,by omega⟩)
   have Hc:=Lib.hid hc
   have Hgo:=Lib.hid hgo
   clear hq2 hpm hpl hq' hqs hpk hps hc hgo j1 j2 j3 j4
   cases hl:lies part with
   |false=>
    have hst:=stepW_no (wt:=wt) (W:=getW (waysL lies wt p.ks.length (i-1))) (c:=c) (useB_no (b:=i) (.inl hl))
    have Hst:=Lib.hid hst
    rw[hl]at hlk
    obtain⟨cv,hcv⟩:∃x:Nat,(if lieN p part=0 then wt part else 0)=x:=⟨_,rfl⟩
    rw[hcv]at hlk
    clear hst hcv
    go_wp2_with fail
    have h7:=Hgo.out
    rw[Hst.out]at h7
    refine HK2.out _ _ q' Hq.out.1 ⟨rfl,k,c,Hq.out.2.1,Hq.out.2.2,Hc.out,h7,HMW.out,?_⟩
    repeat (first|exact ftL|refine ftN ?_|refine ftS ?_)
   |true=>
    have hl0:lieN p part=0:=by
     have h8:=hl
     rw[<-Hli.out]at h8
     exact Nat.eq_of_beq_eq_true h8
    rw[if_pos hl0,hl]at hlk
    have hwp:wt part<=36:=Hwt.out part Hps.out.2.1 (by rw[HE.out];have:=Hi.out;omega)
    obtain⟨wp,hwpe⟩:∃x,wt part=x:=⟨_,rfl⟩
    rw[hwpe]at hlk hwp
    have Hwp:=Lib.hid hwpe
    clear hl0 hwpe
    by_cases hz:pl=0
    ·have hst:=stepW_no (wt:=wt) (W:=getW (waysL lies wt p.ks.length (i-1))) (c:=c) (useB_no (lies:=lies) (b:=i) (part:=part) (.inr (by rw[Hpl.out,hz])))
     have Hst:=Lib.hid hst
     subst hz
     clear hst
     have p5:bits .and .i64 (part:Int) (low:Int)=0:=p4
     clear p4
     go_wp2_with fail
     have h7:=Hgo.out
     rw[Hst.out]at h7
     refine HK2.out _ _ q' Hq.out.1 ⟨rfl,k,c,Hq.out.2.1,Hq.out.2.2,Hc.out,h7,HMW.out,?_⟩
     repeat (first|exact ftL|refine ftN ?_|refine ftS ?_)
    ·have hst:=stepW_yes (wt:=wt) (W:=getW (waysL lies wt p.ks.length (i-1))) (c:=c) (useB_yes hl (by rw[Hpl.out];exact hz))
     have z0:((pl:Int)==0)=false:=by rw[beq_eq_false_iff_ne];omega
     have z1:¬((pl:Int)=0):=by omega
     obtain⟨j1,j2,j3,j4⟩:=Hi.out
     have a3:=andNot_i64 i part (by omega) Hps.out.2.2
     have hrl:=rest_lt Hps.out.1 Hps.out.2.1
     have hrok:=HL.out (i-1) (restN i part) (by omega) (by omega)
     have hpc:=pc_rest Hps.out.1
     have hpci:=pc_le (b:=i) (n:=p.ks.length) (by rw[HE.out];exact j3) HN.out
     have hok:=stepW_ok (lies:=lies) (wt:=wt) (b:=i) (n:=p.ks.length) (W:=getW (waysL lies wt p.ks.length (i-1))) (c:=c) Hps.out.2.1 Hps.out.1 (by rw[Hwp.out];exact hwp) hrok (by omega) Hc.out
     rw[hst]at hok
     have hgo2:=Hgo.out
     rw[hst]at hgo2
     have hcx:nextW wt (getW (waysL lies wt p.ks.length (i-1))) i part=⟨(getW (waysL lies wt p.ks.length (i-1)) (restN i part)).m+1,(getW (waysL lies wt p.ks.length (i-1)) (restN i part)).c+wp,part⟩:=by unfold nextW;rw[Hwp.out]
     rw[hcx]at hok hgo2
     obtain⟨c0,c1,c2,c3⟩:=HMW.out.cells (show restN i part<E by omega)
     rw[updW_ne (by omega)]at c0 c1 c2
     obtain⟨hr1,hr2⟩:=hrok
     obtain⟨r,hr⟩:∃r,restN i part=r:=⟨_,rfl⟩
     rw[hr]at a3 hrl hr1 hr2 hpc hok hgo2 c0 c1 c2
     obtain⟨rw',hrw⟩:∃x,getW (waysL lies wt p.ks.length (i-1)) r=x:=⟨_,rfl⟩
     rw[hrw]at hr1 hr2 hok hgo2 c0 c1 c2
     obtain⟨rm,rc,rf⟩:=rw'
     obtain⟨cm,cc,cf⟩:=c
     simp only at hr1 hr2 hok hgo2 c0 c1 c2
     obtain⟨m1,hm1⟩:∃x,rm+1=x:=⟨_,rfl⟩
     obtain⟨k1,hk1⟩:∃x,rc+wp=x:=⟨_,rfl⟩
     have b1:IntKind.i64.wrap ((rm:Int)+1)=(m1:Int):=by rw[IntKind.wrap_i64];omega
     have b2:IntKind.i64.wrap ((rc:Int)+(wp:Int))=(k1:Int):=by rw[IntKind.wrap_i64];omega
     rw[hm1,hk1]at hok hgo2
     have r1:(r:Int)<(E:Int):=by omega
     have r2:(0:Int)<=(r:Int):=by omega
     have Hok:=Lib.hid hok
     have Hgo2:=Lib.hid hgo2
     have HR:=Lib.hid (Blk.new W2 158 #[.int .i64 (rm:Nat),.int .i64 (rc:Nat),.int .i64 (rf:Nat)])
     have HM3:=Lib.hid (HMW.out.later (balloc (brefl W2) (.cells #[.int .i64 (rm:Nat),.int .i64 (rc:Nat),.int .i64 (rf:Nat)] 158)))
     clear hst hrl hpc hpci hcx hr1 hr2 hr hrw hm1 hk1 hok hgo2 j1 j2 j3 j4 Hc Hgo
     go_wp2_with fail
     clear c0 c1 c2 c3 HMW r1 r2 hlk
     refine dag 19 (by kernel_rfl) (by kernel_rfl) (.is ?_::.is ?_::.is ?_::.is ?_::.is ?_::.is ?_::.is ?_::.is ?_::.is ?_::.is ?_::.is ?_::.is ?_::.is ?_::.is ?_::.is ?_::.is ?_::.like (TwoW ⟨cm,cc,cf⟩ ⟨m1,k1,part⟩)::.is ?_::.is ?_::[]) rfl ?st1 ?ob1
     case st1=>repeat (first|exact stab_nil|refine stab_is ?_|refine stab_like TwoW.stab ?_)
     case ob1=>
     intro env V hG
     have HMV:=Lib.hid (HM3.out.later hG)
     have HRV:=Lib.hid (HR.out.later hG)
     obtain⟨c0,c1,c2,c3⟩:=HMV.out.cells Hi.out.2.2.1
     rw[updW_at]at c0 c1 c2
     simp only at c0 c1 c2
     have d0:=HRV.out.cell 0
     have d1:=HRV.out.cell 1
     have d2:=HRV.out.cell 2
     have d3:=HRV.out.lt
     iterate 16 (refine obI ?_ ?_;unfold dsA;go_simp;(try go_bits);(first|(refine⟨brefl _,?_⟩;rfl)|rfl);intro K hK;go_simp;refine hK _ ?_;clear hK K)
     refine obls_like (λ_=>?_) ?_
     ·unfold dsA
      go_simp
      exact⟨balloc (brefl _) _,_,rfl,Blk.new V 158 _⟩
     intro K hK
     go_simp
     refine hK _ ?_
     clear hK K
     refine obls_isL (λhl=>?_) ?_
     ·obtain⟨g,hg0,hg1⟩:TwoW ⟨cm,cc,cf⟩ ⟨m1,k1,part⟩ (env 16) V:=hl ⟨16,.data⟩ (by simp) rfl
      unfold dsA
      go_simp
      refine(best_two g ⟨cm,cc,cf⟩ ⟨m1,k1,part⟩ V hg1).mono ?_
      rintro e w4⟨rfl,hb4⟩
      refine⟨?_,hb4⟩
      rfl
     intro K hK
     go_simp
     refine hK _ ?_
     clear hK K
     (refine obI ?_ ?_;unfold dsA;go_simp;(try go_bits);(first|(refine⟨brefl _,?_⟩;rfl)|rfl);intro K hK;go_simp;refine hK _ ?_;clear hK K)
     refine obls_last (λhok=>?_)
     clear hok
     have f0:=HMV.out.blk.frozen (i*3)
     have f1:=HMV.out.blk.frozen (i*3+1)
     have f2:=HMV.out.blk.frozen (i*3+2)
     have HP:=Lib.hid (HMV.out.put i (bestW ⟨cm,cc,cf⟩ ⟨m1,k1,part⟩))
     rw[updW_twice]at HP
     obtain⟨y,hy⟩:∃y,bestW ⟨cm,cc,cf⟩ ⟨m1,k1,part⟩=y:=⟨_,rfl⟩
     rw[hy]at HP Hok Hgo2 ⊢
     clear hy
     unfold dsA
     go_simp
     go_wp2_with fail
     refine HK2.out _ _ q' Hq.out.1 ⟨rfl,k,y,Hq.out.2.1,Hq.out.2.2,Hok.out,Hgo2.out,HP.out,?_⟩
     repeat (first|exact ftL|refine ftN ?_|refine ftS ?_)
 ·have hie:i=E:=by omega
  subst hie
  have e1:IntKind.i64.wrap ((i:Int)-1)=((i-1:Nat):Int):=by rw[IntKind.wrap_i64];omega
  obtain⟨im,him⟩:∃x,i-1=x:=⟨_,rfl⟩
  have Him0:=Lib.hid him
  have HO2:=Lib.hid (λb(h0:0<b)(hb:b<=i-1)=>HO.out (i-1) b (by omega) h0 hb)
  obtain⟨L,hL⟩:∃L,waysL lies wt p.ks.length (i-1)=L:=⟨_,rfl⟩
  rw[hL,him]at HO2
  rw[hL]at HMW
  have HL0:=Lib.hid hL
  rw[him]at e1
  have Him:=Lib.hid (show im+1=i/\i<=1024 by omega)
  clear hiq h1 hL him hK a1 s1 hN HL HO HMe Hwt Hli Hw
  go_wp2_with fail
  obtain⟨B0,hB0⟩:∃B,W.heap.size=B:=⟨_,rfl⟩
  have HB0:=Lib.hid (show G<B0/\w.heap.size<=B0 from by rw[<-hB0];exact⟨HMW.out.blk.lt,HMW.out.bel.size⟩)
  have hB0':B0<=W.heap.size:=Nat.le_of_eq hB0.symm
  clear hB0
  refine lpn (λb a3 W3=>a3.defers=[]/\∃(k:Nat)(done:List Nat)(v:Value),b<=k/\done.length+b<=im/\done++outW L k b=outW L i im/\MW p T M n D G i (getW L) w W3/\B0<=W3.heap.size/\W3.ownsRow B0 49 4 v done.length ((done.map (leastP p.ks)).flatMap encPc)/\Fits (some (.pointer (some ⟨T,0,none⟩))::none::none::none::some (.slice (some ⟨G,0,none⟩) i i)::none::none::none::none::none::some (v)::some (.int .i64 (b:Nat))::none::none::none::none::none::none::none::none::none::none::none::none::none::none::none::none::none::none::none::none::none::none::none::none::none::none::none::none::none::none::none::none::none::none::none::none::none::none::none::none::none::none::none::none::none::none::none::none::none::none::none::none::none::none::none::none::none::none::none::none::none::none::none::none::none::none::none::none::none::none::none::none::none::none::none::none::none::none::none::none::none::none::none::none::none::none::none::none::none::none::none::none::none::none::none::none::none::none::none::[]) a3.tmps.toList) im ?_ ?_
  ·refine⟨rfl,i,[],.slice none 0 0,by have:=Him.out;omega,by simp,rfl,HMW.out,hB0',World.ownsRow_nil _ _ _ _,?_⟩
   repeat (first|exact ftL|refine ftN ?_|refine ftS ?_)
  clear HMW hB0' e1
  clear W
  intro b a3 W3 hI3 K3 hK3
  obtain⟨hds,k,done,v,hbk,hdb,hout,hMW,hBW,hown,hfit⟩:=hI3
  obtain⟨f',hf'⟩:=ftA hfit
  rw[hds]at hf'
  subst hf'
  clear hfit hds
  simp only[fillP,Nat.reduceAdd]
  have HMW:=Lib.hid hMW
  have HK3:=Lib.hid (@hK3)
  have Hown:=Lib.hid hown
  have HBW:=Lib.hid hBW
  clear hMW hK3 hown hBW
  by_cases hb0:b=0
  ·subst hb0
   rw[outW_zero,List.append_nil]at hout
   have Hout:=Lib.hid hout
   clear hout hbk hdb
   go_wp2_with fail
   go_ret
   rw[HL0.out,Him0.out,<-Hout.out]
   exact⟨v,rfl,HMW.out.bel,own_low Hown.out HB0.out.2⟩
  ·obtain⟨j1,j2⟩:=Him.out
   have hok:=HO2.out b (by omega) (by omega)
   obtain⟨k,rfl⟩:∃k',k=k'+1:=⟨k-1,by omega⟩
   rw[outW_succ hb0]at hout
   obtain⟨c0,c1,c2,c3⟩:=HMW.out.cells (show b<i by omega)
   have hfb:=sub_le hok.sub
   have hrl:=rest_lt hok.sub hok.f0
   have hf0:=hok.f0
   obtain⟨f,hf⟩:∃f,(getW L b).f=f:=⟨_,rfl⟩
   rw[hf]at c2 hfb hrl hf0 hout
   have a3:=andNot_i64 b f (by omega) (by omega)
   obtain⟨r,hr⟩:∃r,restN b f=r:=⟨_,rfl⟩
   rw[hr]at a3 hrl hout
   have Hf:=Lib.hid (show(getW L b).f=f from hf)
   have Hle1:=Lib.hid (λW(hb:Below w.heap.size w W)=>Hle.out W hb f hf0 (by rw[HE.out];omega))
   have b1:(b:Int)<(i:Int):=by omega
   have b2:(0:Int)<(b:Int):=by omega
   have b3:(0:Int)<=(b:Int):=by omega
   have Hb:=Lib.hid (show r<b/\b<=k+1/\done.length+b<=im/\im<=1024/\b<i from⟨hrl,hbk,hdb,by omega,by omega⟩)
   have Hout:=Lib.hid hout
   clear hok hfb hrl hf0 hf hr hbk hdb hout j1 j2 hb0 c0 c1
   go_wp2_with fail
   refine(Hle1.out W3 HMW.out.bel).mono ?_
   rintro e w4⟨rfl,hb4⟩
   obtain⟨y,hy⟩:∃y,leastP p.ks f=y:=⟨_,rfl⟩
   rw[hy]
   have Hy:=Lib.hid hy
   clear hy
   obtain⟨yt,yl,yr,yc⟩:=y
   have hev:(encPc ⟨yt,yl,yr,yc⟩).toArray=#[.int .i64 (yt:Nat),.int .i64 (yl:Nat),.int .i64 (yr:Nat),.int .i64 (yc:Nat)]:=rfl
   rw[hev]
   have hb5:=Below.later hb4 (balloc (brefl w4) (.cells #[.int .i64 (yt:Nat),.int .i64 (yl:Nat),.int .i64 (yr:Nat),.int .i64 (yc:Nat)] 49))
   have HM5:=Lib.hid (HMW.out.later hb5)
   have HO5:=Lib.hid (owL Hown.out hb5)
   have HB5:=Lib.hid (show B0<=w4.heap.size from Nat.le_trans HBW.out hb4.size)
   obtain⟨i0,hi0,hz0,hz1,hz2⟩:=info_parts info_piece
   clear hev hb4 hb5 HMW Hown HBW c2 c3 Hle1
   go_wp2_with (at_builtin;refine wpList_append_own _ rfl _ _ 47 rfl B0 49 i0 (.agg #[.int .i64 0,.int .i64 0,.int .i64 0,.int .i64 0]) 4 32 und_pieces hi0 hz0 hz1 hz2 rfl (by decide) v done.length _ rfl HO5.out ⟨w4.heap.size,0,none⟩ 1 1 [.int .i64 (yt:Nat),.int .i64 (yl:Nat),.int .i64 (yr:Nat),.int .i64 (yc:Nat)] rfl rfl (four_new _ _ _ _ _ _) (by simp[Value.oneCell']) (by have:=Hb.out;simp only[maxLen];omega) (by have:=Hb.out;omega) (by have:=HB5.out;simp;omega) ?_;intro v' W5 hown' hgr _;have HO6:=Lib.hid hown';have HM6:=Lib.hid (HM5.out.grown hgr (λg hg=>Nat.lt_of_lt_of_le HB0.out.1 (own_base HO5.out g hg)));have HB6:=Lib.hid (show B0<=W5.heap.size from Nat.le_trans HB5.out (Nat.le_trans (Nat.le_succ _) (by have:=hgr.size;simpa using this)));obtain⟨c0,c1,c2,c3⟩:=HM6.out.cells Hb.out.2.2.2.2;rw[Hf.out]at c2;clear hown' hgr c0 c1)
   obtain⟨j1,j2,j3,j4,j5⟩:=Hb.out
   have h8:=HO6.out
   refine HK3.out _ _ r j1 ⟨rfl,k,done++[f],v',by omega,by simp;omega,by rw[List.append_assoc];exact Hout.out,HM6.out,HB6.out,?_,?_⟩
   ·rw[List.length_append,List.map_append,List.flatMap_append]
    simpa[Hy.out,encPc]using h8
   ·repeat (first|exact ftL|refine ftN ?_|refine ftS ?_)
end Go.Proofs.YtifehdoghfnhoaaGreatDoor.Pa
