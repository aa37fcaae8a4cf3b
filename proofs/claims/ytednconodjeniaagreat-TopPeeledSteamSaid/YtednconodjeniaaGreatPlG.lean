/- Peel: the first of several that is better than all before it, walked, for any test that only reads. -/
import Derived.Test.YtednconodjeniaaGreatPlF
namespace Go.Proofs.YtednconodjeniaaGreat.P
open Go.RowKit Go.Shelf
def bestTo(bt:Pr->Pr->Bool)(x:Pr)(l:List Pr):Pr:=l.foldl (λo y=>if bt y o=true then y else o) x
theorem bestTo_snoc(bt:Pr->Pr->Bool)(x:Pr)(l:List Pr)(y:Pr):bestTo bt x (l++[y])=if bt y (bestTo bt x l)=true then y else bestTo bt x l:=by
 unfold bestTo
 rw[List.foldl_append]
 rfl
theorem bestTo_mem(bt:Pr->Pr->Bool)(x:Pr)(l:List Pr):bestTo bt x l=x\/bestTo bt x l∈l:=by
 induction l generalizing x with
 |nil=>exact .inl rfl
 |cons y l ih=>
  have h0:bestTo bt x (y::l)=bestTo bt (if bt y x=true then y else x) l:=rfl
  rw[h0]
  rcases ih (if bt y x=true then y else x)with h|h
  ·rw[h]
   split
   ·exact .inr (by simp)
   ·exact .inl rfl
  ·exact .inr (List.mem_cons_of_mem _ h)
structure BW(w W:World)(o:Pr):Prop where
 bel:Below w.heap.size w W
 b0:Blk W w.heap.size 120 #[.int .i64 0,.int .i64 0,.int .i64 0,.int .i64 0]
 b1:Blk W (w.heap.size+1) 120 #[.int .i64 (o.a:Nat),.int .i64 (o.b:Nat),.int .i64 (o.c:Nat),.int .i64 o.s]
theorem BW.later{w W W':World}{o:Pr}(h:BW w W o)(hb:Below W.heap.size W W'):BW w W' o:=⟨Below.later h.bel hb,h.b0.later hb,h.b1.later hb⟩
theorem BW.set{w W:World}{o:Pr}(h:BW w W o)(y:Pr):BW w ((((W.setCell ⟨w.heap.size+1,0,none⟩ (.int .i64 (y.a:Nat))).setCell ⟨w.heap.size+1,1,none⟩ (.int .i64 (y.b:Nat))).setCell ⟨w.heap.size+1,2,none⟩ (.int .i64 (y.c:Nat))).setCell ⟨w.heap.size+1,3,none⟩ (.int .i64 y.s)) y:=
 ⟨bset (bset (bset (bset h.bel (by simp) _) (by simp) _) (by simp) _) (by simp) _,(((h.b0.other (by simp) _).other (by simp) _).other (by simp) _).other (by simp) _,(((h.b1.set 0 _).set 1 _).set 2 _).set 3 _⟩
theorem Sl.ltP{w:World}{B:Nat}{A:Option Addr}{n c:Nat}{xs:List Pr}(h:Sl 4 encP w B A n c xs){i:Nat}(hi:i<n):∃b o x,A=some ⟨b,o,none⟩/\b<B/\xs[i]? =some x/\
 w.cell? ⟨b,o+i*4,none⟩=some (.int .i64 (x.a:Nat))/\w.cell? ⟨b,o+i*4+1,none⟩=some (.int .i64 (x.b:Nat))/\w.cell? ⟨b,o+i*4+2,none⟩=some (.int .i64 (x.c:Nat))/\w.cell? ⟨b,o+i*4+3,none⟩=some (.int .i64 x.s):=by
 obtain⟨b,o,x,hA,hB,hx,hc⟩:=h.lt hi
 exact⟨b,o,x,hA,hB,hx,by simpa using hc 0 _ rfl,by simpa using hc 1 _ rfl,by simpa using hc 2 _ rfl,by simpa using hc 3 _ rfl⟩
set_option maxRecDepth 100000 in
set_option maxHeartbeats 4000000 in
theorem best1_any(A:Option Addr)(c:Nat)(x0:Pr)(l:List Pr)(B:Nat)(bt:Pr->Pr->Bool)(w:World)(hs:Sl 4 encP w w.heap.size A (l.length+1) c (x0::l))(hl:l.length<=2000)
 (hbt:∀W p q,Below w.heap.size w W->p∈x0::l->q∈x0::l->Calls Tryz.prog 152 #[pv p,pv q,.pointer (some ⟨B,0,none⟩)] W λe w'=>e=.returned (.bool (bt p q))/\Below W.heap.size W w'):
 Calls Tryz.prog 151 #[.slice A (l.length+1) c,.func (.func 152) #[] #[.pointer (some ⟨B,0,none⟩)]] w λe w'=>e=.returned (pv (bestTo bt x0 l))/\Below w.heap.size w w':=by
 obtain⟨b,o,x,rfl,hb,hx,f0,f1,f2,f3⟩:=Sl.ltP hs (i:=0) (by omega)
 obtain rfl:x0=x:=by simpa using hx
 have hcap:=hs.cap
 have Hs:=Lib.hid hs
 have Hbt:=Lib.hid hbt
 clear hs hbt hx
 simp only[Nat.zero_mul,Nat.add_zero]at f0 f1 f2 f3
 obtain⟨m,hm⟩:∃m,l.length=m:=⟨_,rfl⟩
 rw[hm]at Hs hcap hl ⊢
 have Hm:=Lib.hid hm
 clear hm
 have i1:(1:Int)<=((m+1:Nat):Int):=by omega
 have i2:((m+1:Nat):Int)<=(c:Int):=by omega
 go_enter Tryz.func151,Tryz.ntmps151
 go_wp2_with fail
 ·have hS:Sl 4 encP w w.heap.size (some ⟨b,o,none⟩) m 0 l:=⟨Hm.out,by omega,by omega,λh=>by omega⟩
  have HS:=Lib.hid hS
  clear hS
  obtain⟨A',hA'⟩:∃A',(some ⟨b,o,none⟩:Option Addr)=A':=⟨_,rfl⟩
  rw[hA']at HS ⊢
  clear hA'
  have HB0:=Lib.hid (show BW w ((w.alloc (.cells #[.int .i64 0,.int .i64 0,.int .i64 0,.int .i64 0] 120)).alloc (.cells #[.int .i64 (x0.a:Nat),.int .i64 (x0.b:Nat),.int .i64 (x0.c:Nat),.int .i64 x0.s] 120)) (bestTo bt x0 (l.take 0))from⟨balloc (balloc (brefl w) _) _,(Blk.new w _ _).alloc _,by
   have:=Blk.new (w.alloc (.cells #[.int .i64 0,.int .i64 0,.int .i64 0,.int .i64 0] 120)) 120 #[.int .i64 (x0.a:Nat),.int .i64 (x0.b:Nat),.int .i64 (x0.c:Nat),.int .i64 x0.s]
   rwa[World.size_alloc]at this⟩)
  clear f0 f1 f2 f3
  refine loop_n (λq a W=>a.defers=[]/\∃k c':Nat,k+q=m/\Sl 4 encP w w.heap.size A' m c' l/\BW w W (bestTo bt x0 (l.take k))/\Fits (none::some (.func (.func 152) #[] #[.pointer (some ⟨B,0,none⟩)])::none::none::some (.pointer (some ⟨w.heap.size,0,none⟩))::some (.pointer (some ⟨w.heap.size+1,0,none⟩))::none::none::none::none::none::none::some (.slice A' m c')::some (.int .i64 (m:Nat))::some (.int .i64 (k:Nat))::none::none::none::none::none::none::none::none::none::none::[]) a.tmps.toList) m ?_ ?_
  ·refine⟨rfl,0,_,by omega,HS.out,HB0.out,?_⟩
   repeat (first|exact fits_nil|refine fits_none ?_|refine fits_some ?_)
  clear HB0 HS
  intro q a W hI K1 hK
  obtain⟨hds,k,c',hkq,hS,hB,hfit⟩:=hI
  obtain⟨f',hf'⟩:=fits_act hfit
  rw[hds]at hf'
  subst hf'
  clear hfit hds
  simp only[fillP,Nat.reduceAdd]
  have HB:=Lib.hid hB
  by_cases hlt:k<m
  ·first
   |(exfalso;omega)
   |(
    obtain⟨b',o',y,rfl,hgl,hy,y0,y1,y2,y3⟩:=Sl.ltP (hS.later hB.bel) hlt
    have hyl:y∈x0::l:=List.mem_cons_of_mem _ (List.mem_of_getElem? hy)
    have hol:bestTo bt x0 (l.take k)∈x0::l:=by
     rcases bestTo_mem bt x0 (l.take k)with h|h
     ·rw[h];simp
     ·exact List.mem_cons_of_mem _ (List.mem_of_mem_take h)
    have hst:bestTo bt x0 (l.take (k+1))=if bt y (bestTo bt x0 (l.take k))=true then y else bestTo bt x0 (l.take k):=by
     obtain⟨h1,h2⟩:=List.getElem?_eq_some_iff.1 hy
     rw[List.take_succ_eq_append_getElem h1,h2,bestTo_snoc]
    obtain⟨z,hz⟩:∃z,bestTo bt x0 (l.take k)=z:=⟨_,rfl⟩
    rw[hz]at hst hol hB HB
    have Hst:=Lib.hid hst
    have Hyl:=Lib.hid hyl
    have Hol:=Lib.hid hol
    have HS:=Lib.hid hS
    have u0:W.cell? ⟨w.heap.size+1,0,none⟩=some (.int .i64 (z.a:Nat)):=hB.b1.cell 0
    have u1:W.cell? ⟨w.heap.size+1,1,none⟩=some (.int .i64 (z.b:Nat)):=hB.b1.cell 1
    have u2:W.cell? ⟨w.heap.size+1,2,none⟩=some (.int .i64 (z.c:Nat)):=hB.b1.cell 2
    have u3:W.cell? ⟨w.heap.size+1,3,none⟩=some (.int .i64 z.s):=hB.b1.cell 3
    have u4:=hB.b1.lt
    have j1:(k:Int)<(m:Int):=by omega
    have j2:(0:Int)<=(k:Int):=by omega
    have j3:IntKind.i64.wrap ((k:Int)+1)=(k:Int)+1:=by rw[IntKind.wrap_i64];omega
    clear hy hst hyl hol hS hB hz
    go_wp2_with fail
    refine(Hbt.out _ y z (Below.later HB.out.bel (balloc (brefl W) _)) Hyl.out Hol.out).mono ?_
    rintro e w1⟨rfl,hb1⟩
    have HB1:=Lib.hid (HB.out.later (Below.later (balloc (brefl W) _) hb1))
    have Hy1:=Lib.hid ((Blk.new W 120 #[.int .i64 (y.a:Nat),.int .i64 (y.b:Nat),.int .i64 (y.c:Nat),.int .i64 y.s]).later hb1)
    clear hb1 y0 y1 y2 y3 u0 u1 u2 u3 u4
    have e0:w1.cell? ⟨W.heap.size,0,none⟩=some (.int .i64 (y.a:Nat)):=Hy1.out.cell 0
    have e1:w1.cell? ⟨W.heap.size,1,none⟩=some (.int .i64 (y.b:Nat)):=Hy1.out.cell 1
    have e2:w1.cell? ⟨W.heap.size,2,none⟩=some (.int .i64 (y.c:Nat)):=Hy1.out.cell 2
    have e3:w1.cell? ⟨W.heap.size,3,none⟩=some (.int .i64 y.s):=Hy1.out.cell 3
    have e4:=Hy1.out.lt
    have u0:w1.cell? ⟨w.heap.size+1,0,none⟩=some (.int .i64 (z.a:Nat)):=HB1.out.b1.cell 0
    have u1:w1.cell? ⟨w.heap.size+1,1,none⟩=some (.int .i64 (z.b:Nat)):=HB1.out.b1.cell 1
    have u2:w1.cell? ⟨w.heap.size+1,2,none⟩=some (.int .i64 (z.c:Nat)):=HB1.out.b1.cell 2
    have u3:w1.cell? ⟨w.heap.size+1,3,none⟩=some (.int .i64 z.s):=HB1.out.b1.cell 3
    have u4:=HB1.out.b1.lt
    have u5:=HB1.out.b1.frozen 0
    have u6:=HB1.out.b1.frozen 1
    have u7:=HB1.out.b1.frozen 2
    have u8:=HB1.out.b1.frozen 3
    cases hbz:bt y z with
    |true=>
     have Hst2:=Lib.hid (show bestTo bt x0 (l.take (k+1))=y by rw[Hst.out,hbz];rfl)
     clear hbz Hst
     go_wp2
     refine hK _ _ (q-1) (by omega) ⟨rfl,k+1,c',by omega,HS.out,by rw[Hst2.out];exact HB1.out.set y,?_⟩
     repeat (first|exact fits_nil|refine fits_none ?_|refine fits_some ?_)
    |false=>
     have Hst2:=Lib.hid (show bestTo bt x0 (l.take (k+1))=z by rw[Hst.out,hbz];rfl)
     clear hbz Hst
     go_wp2
     refine hK _ _ (q-1) (by omega) ⟨rfl,k+1,c',by omega,HS.out,by rw[Hst2.out];exact HB1.out,?_⟩
     repeat (first|exact fits_nil|refine fits_none ?_|refine fits_some ?_))
  ·obtain rfl:k=m:=by omega
   have htk:bestTo bt x0 (l.take k)=bestTo bt x0 l:=by rw[<-Hm.out,List.take_length]
   rw[htk]at hB HB
   have Htk:=Lib.hid htk
   obtain⟨z,hz⟩:∃z,bestTo bt x0 l=z:=⟨_,rfl⟩
   rw[hz]at hB HB
   have Hz:=Lib.hid hz
   have u0:W.cell? ⟨w.heap.size+1,0,none⟩=some (.int .i64 (z.a:Nat)):=hB.b1.cell 0
   have u1:W.cell? ⟨w.heap.size+1,1,none⟩=some (.int .i64 (z.b:Nat)):=hB.b1.cell 1
   have u2:W.cell? ⟨w.heap.size+1,2,none⟩=some (.int .i64 (z.c:Nat)):=hB.b1.cell 2
   have u3:W.cell? ⟨w.heap.size+1,3,none⟩=some (.int .i64 z.s):=hB.b1.cell 3
   have u4:=hB.b1.lt
   have v0:W.cell? ⟨w.heap.size,0,none⟩=some (.int .i64 0):=hB.b0.cell 0
   have v1:W.cell? ⟨w.heap.size,1,none⟩=some (.int .i64 0):=hB.b0.cell 1
   have v2:W.cell? ⟨w.heap.size,2,none⟩=some (.int .i64 0):=hB.b0.cell 2
   have v3:W.cell? ⟨w.heap.size,3,none⟩=some (.int .i64 0):=hB.b0.cell 3
   have v4:=hB.b0.frozen 0
   have v5:=hB.b0.frozen 1
   have v6:=hB.b0.frozen 2
   have v7:=hB.b0.frozen 3
   clear hK hB hS htk hz
   go_wp2
   refine bodyPost_ret (v:=pv z) (by simp[results,Tryz.results151,go_sem,v0,v1,v2,v3]) rfl ⟨by rw[<-Hz.out],bset (bset (bset (bset HB.out.bel (p:=⟨w.heap.size,0,none⟩) (Nat.le_refl _) _) (p:=⟨w.heap.size,1,none⟩) (Nat.le_refl _) _) (p:=⟨w.heap.size,2,none⟩) (Nat.le_refl _) _) (p:=⟨w.heap.size,3,none⟩) (Nat.le_refl _) _⟩
 ·have hS:Sl 4 encP w w.heap.size (some ⟨b,o+4,none⟩) m (c-1) l:=by
   have hs:=Hs.out
   refine⟨Hm.out,by omega,by have:=hs.big;omega,λ_=>⟨b,o+4,rfl,hb,λi x hx j u hu=>?_⟩⟩
   obtain⟨b',o',hA,_,hc⟩:=hs.at_ (by omega)
   cases hA
   have:=hc (i+1) x (by simpa using hx) j u hu
   rwa[show o+(i+1)*4+j=o+4+i*4+j by omega]at this
  have HS:=Lib.hid hS
  clear hS
  obtain⟨A',hA'⟩:∃A',(some ⟨b,o+4,none⟩:Option Addr)=A':=⟨_,rfl⟩
  rw[hA']at HS ⊢
  clear hA'
  have HB0:=Lib.hid (show BW w ((w.alloc (.cells #[.int .i64 0,.int .i64 0,.int .i64 0,.int .i64 0] 120)).alloc (.cells #[.int .i64 (x0.a:Nat),.int .i64 (x0.b:Nat),.int .i64 (x0.c:Nat),.int .i64 x0.s] 120)) (bestTo bt x0 (l.take 0))from⟨balloc (balloc (brefl w) _) _,(Blk.new w _ _).alloc _,by
   have:=Blk.new (w.alloc (.cells #[.int .i64 0,.int .i64 0,.int .i64 0,.int .i64 0] 120)) 120 #[.int .i64 (x0.a:Nat),.int .i64 (x0.b:Nat),.int .i64 (x0.c:Nat),.int .i64 x0.s]
   rwa[World.size_alloc]at this⟩)
  clear f0 f1 f2 f3
  refine loop_n (λq a W=>a.defers=[]/\∃k c':Nat,k+q=m/\Sl 4 encP w w.heap.size A' m c' l/\BW w W (bestTo bt x0 (l.take k))/\Fits (none::some (.func (.func 152) #[] #[.pointer (some ⟨B,0,none⟩)])::none::none::some (.pointer (some ⟨w.heap.size,0,none⟩))::some (.pointer (some ⟨w.heap.size+1,0,none⟩))::none::none::none::none::none::none::some (.slice A' m c')::some (.int .i64 (m:Nat))::some (.int .i64 (k:Nat))::none::none::none::none::none::none::none::none::none::none::[]) a.tmps.toList) m ?_ ?_
  ·refine⟨rfl,0,_,by omega,HS.out,HB0.out,?_⟩
   repeat (first|exact fits_nil|refine fits_none ?_|refine fits_some ?_)
  clear HB0 HS
  intro q a W hI K1 hK
  obtain⟨hds,k,c',hkq,hS,hB,hfit⟩:=hI
  obtain⟨f',hf'⟩:=fits_act hfit
  rw[hds]at hf'
  subst hf'
  clear hfit hds
  simp only[fillP,Nat.reduceAdd]
  have HB:=Lib.hid hB
  by_cases hlt:k<m
  ·first
   |(exfalso;omega)
   |(
    obtain⟨b',o',y,rfl,hgl,hy,y0,y1,y2,y3⟩:=Sl.ltP (hS.later hB.bel) hlt
    have hyl:y∈x0::l:=List.mem_cons_of_mem _ (List.mem_of_getElem? hy)
    have hol:bestTo bt x0 (l.take k)∈x0::l:=by
     rcases bestTo_mem bt x0 (l.take k)with h|h
     ·rw[h];simp
     ·exact List.mem_cons_of_mem _ (List.mem_of_mem_take h)
    have hst:bestTo bt x0 (l.take (k+1))=if bt y (bestTo bt x0 (l.take k))=true then y else bestTo bt x0 (l.take k):=by
     obtain⟨h1,h2⟩:=List.getElem?_eq_some_iff.1 hy
     rw[List.take_succ_eq_append_getElem h1,h2,bestTo_snoc]
    obtain⟨z,hz⟩:∃z,bestTo bt x0 (l.take k)=z:=⟨_,rfl⟩
    rw[hz]at hst hol hB HB
    have Hst:=Lib.hid hst
    have Hyl:=Lib.hid hyl
    have Hol:=Lib.hid hol
    have HS:=Lib.hid hS
    have u0:W.cell? ⟨w.heap.size+1,0,none⟩=some (.int .i64 (z.a:Nat)):=hB.b1.cell 0
    have u1:W.cell? ⟨w.heap.size+1,1,none⟩=some (.int .i64 (z.b:Nat)):=hB.b1.cell 1
    have u2:W.cell? ⟨w.heap.size+1,2,none⟩=some (.int .i64 (z.c:Nat)):=hB.b1.cell 2
    have u3:W.cell? ⟨w.heap.size+1,3,none⟩=some (.int .i64 z.s):=hB.b1.cell 3
    have u4:=hB.b1.lt
    have j1:(k:Int)<(m:Int):=by omega
    have j2:(0:Int)<=(k:Int):=by omega
    have j3:IntKind.i64.wrap ((k:Int)+1)=(k:Int)+1:=by rw[IntKind.wrap_i64];omega
    clear hy hst hyl hol hS hB hz
    go_wp2_with fail
    refine(Hbt.out _ y z (Below.later HB.out.bel (balloc (brefl W) _)) Hyl.out Hol.out).mono ?_
    rintro e w1⟨rfl,hb1⟩
    have HB1:=Lib.hid (HB.out.later (Below.later (balloc (brefl W) _) hb1))
    have Hy1:=Lib.hid ((Blk.new W 120 #[.int .i64 (y.a:Nat),.int .i64 (y.b:Nat),.int .i64 (y.c:Nat),.int .i64 y.s]).later hb1)
    clear hb1 y0 y1 y2 y3 u0 u1 u2 u3 u4
    have e0:w1.cell? ⟨W.heap.size,0,none⟩=some (.int .i64 (y.a:Nat)):=Hy1.out.cell 0
    have e1:w1.cell? ⟨W.heap.size,1,none⟩=some (.int .i64 (y.b:Nat)):=Hy1.out.cell 1
    have e2:w1.cell? ⟨W.heap.size,2,none⟩=some (.int .i64 (y.c:Nat)):=Hy1.out.cell 2
    have e3:w1.cell? ⟨W.heap.size,3,none⟩=some (.int .i64 y.s):=Hy1.out.cell 3
    have e4:=Hy1.out.lt
    have u0:w1.cell? ⟨w.heap.size+1,0,none⟩=some (.int .i64 (z.a:Nat)):=HB1.out.b1.cell 0
    have u1:w1.cell? ⟨w.heap.size+1,1,none⟩=some (.int .i64 (z.b:Nat)):=HB1.out.b1.cell 1
    have u2:w1.cell? ⟨w.heap.size+1,2,none⟩=some (.int .i64 (z.c:Nat)):=HB1.out.b1.cell 2
    have u3:w1.cell? ⟨w.heap.size+1,3,none⟩=some (.int .i64 z.s):=HB1.out.b1.cell 3
    have u4:=HB1.out.b1.lt
    have u5:=HB1.out.b1.frozen 0
    have u6:=HB1.out.b1.frozen 1
    have u7:=HB1.out.b1.frozen 2
    have u8:=HB1.out.b1.frozen 3
    cases hbz:bt y z with
    |true=>
     have Hst2:=Lib.hid (show bestTo bt x0 (l.take (k+1))=y by rw[Hst.out,hbz];rfl)
     clear hbz Hst
     go_wp2
     refine hK _ _ (q-1) (by omega) ⟨rfl,k+1,c',by omega,HS.out,by rw[Hst2.out];exact HB1.out.set y,?_⟩
     repeat (first|exact fits_nil|refine fits_none ?_|refine fits_some ?_)
    |false=>
     have Hst2:=Lib.hid (show bestTo bt x0 (l.take (k+1))=z by rw[Hst.out,hbz];rfl)
     clear hbz Hst
     go_wp2
     refine hK _ _ (q-1) (by omega) ⟨rfl,k+1,c',by omega,HS.out,by rw[Hst2.out];exact HB1.out,?_⟩
     repeat (first|exact fits_nil|refine fits_none ?_|refine fits_some ?_))
  ·obtain rfl:k=m:=by omega
   have htk:bestTo bt x0 (l.take k)=bestTo bt x0 l:=by rw[<-Hm.out,List.take_length]
   rw[htk]at hB HB
   have Htk:=Lib.hid htk
   obtain⟨z,hz⟩:∃z,bestTo bt x0 l=z:=⟨_,rfl⟩
   rw[hz]at hB HB
   have Hz:=Lib.hid hz
   have u0:W.cell? ⟨w.heap.size+1,0,none⟩=some (.int .i64 (z.a:Nat)):=hB.b1.cell 0
   have u1:W.cell? ⟨w.heap.size+1,1,none⟩=some (.int .i64 (z.b:Nat)):=hB.b1.cell 1
   have u2:W.cell? ⟨w.heap.size+1,2,none⟩=some (.int .i64 (z.c:Nat)):=hB.b1.cell 2
   have u3:W.cell? ⟨w.heap.size+1,3,none⟩=some (.int .i64 z.s):=hB.b1.cell 3
   have u4:=hB.b1.lt
   have v0:W.cell? ⟨w.heap.size,0,none⟩=some (.int .i64 0):=hB.b0.cell 0
   have v1:W.cell? ⟨w.heap.size,1,none⟩=some (.int .i64 0):=hB.b0.cell 1
   have v2:W.cell? ⟨w.heap.size,2,none⟩=some (.int .i64 0):=hB.b0.cell 2
   have v3:W.cell? ⟨w.heap.size,3,none⟩=some (.int .i64 0):=hB.b0.cell 3
   have v4:=hB.b0.frozen 0
   have v5:=hB.b0.frozen 1
   have v6:=hB.b0.frozen 2
   have v7:=hB.b0.frozen 3
   clear hK hB hS htk hz
   go_wp2
   refine bodyPost_ret (v:=pv z) (by simp[results,Tryz.results151,go_sem,v0,v1,v2,v3]) rfl ⟨by rw[<-Hz.out],bset (bset (bset (bset HB.out.bel (p:=⟨w.heap.size,0,none⟩) (Nat.le_refl _) _) (p:=⟨w.heap.size,1,none⟩) (Nat.le_refl _) _) (p:=⟨w.heap.size,2,none⟩) (Nat.le_refl _) _) (p:=⟨w.heap.size,3,none⟩) (Nat.le_refl _) _⟩
set_option maxRecDepth 100000 in
set_option maxHeartbeats 4000000 in
theorem best2_any(A:Option Addr)(c:Nat)(x0:Pr)(l:List Pr)(B:Nat)(bt:Pr->Pr->Bool)(w:World)(hs:Sl 4 encP w w.heap.size A (l.length+1) c (x0::l))(hl:l.length<=2000)
 (hbt:∀W p q,Below w.heap.size w W->p∈x0::l->q∈x0::l->Calls Tryz.prog 154 #[pv p,pv q,.pointer (some ⟨B,0,none⟩)] W λe w'=>e=.returned (.bool (bt p q))/\Below W.heap.size W w'):
 Calls Tryz.prog 151 #[.slice A (l.length+1) c,.func (.func 154) #[] #[.pointer (some ⟨B,0,none⟩)]] w λe w'=>e=.returned (pv (bestTo bt x0 l))/\Below w.heap.size w w':=by
 obtain⟨b,o,x,rfl,hb,hx,f0,f1,f2,f3⟩:=Sl.ltP hs (i:=0) (by omega)
 obtain rfl:x0=x:=by simpa using hx
 have hcap:=hs.cap
 have Hs:=Lib.hid hs
 have Hbt:=Lib.hid hbt
 clear hs hbt hx
 simp only[Nat.zero_mul,Nat.add_zero]at f0 f1 f2 f3
 obtain⟨m,hm⟩:∃m,l.length=m:=⟨_,rfl⟩
 rw[hm]at Hs hcap hl ⊢
 have Hm:=Lib.hid hm
 clear hm
 have i1:(1:Int)<=((m+1:Nat):Int):=by omega
 have i2:((m+1:Nat):Int)<=(c:Int):=by omega
 go_enter Tryz.func151,Tryz.ntmps151
 go_wp2_with fail
 ·have hS:Sl 4 encP w w.heap.size (some ⟨b,o,none⟩) m 0 l:=⟨Hm.out,by omega,by omega,λh=>by omega⟩
  have HS:=Lib.hid hS
  clear hS
  obtain⟨A',hA'⟩:∃A',(some ⟨b,o,none⟩:Option Addr)=A':=⟨_,rfl⟩
  rw[hA']at HS ⊢
  clear hA'
  have HB0:=Lib.hid (show BW w ((w.alloc (.cells #[.int .i64 0,.int .i64 0,.int .i64 0,.int .i64 0] 120)).alloc (.cells #[.int .i64 (x0.a:Nat),.int .i64 (x0.b:Nat),.int .i64 (x0.c:Nat),.int .i64 x0.s] 120)) (bestTo bt x0 (l.take 0))from⟨balloc (balloc (brefl w) _) _,(Blk.new w _ _).alloc _,by
   have:=Blk.new (w.alloc (.cells #[.int .i64 0,.int .i64 0,.int .i64 0,.int .i64 0] 120)) 120 #[.int .i64 (x0.a:Nat),.int .i64 (x0.b:Nat),.int .i64 (x0.c:Nat),.int .i64 x0.s]
   rwa[World.size_alloc]at this⟩)
  clear f0 f1 f2 f3
  refine loop_n (λq a W=>a.defers=[]/\∃k c':Nat,k+q=m/\Sl 4 encP w w.heap.size A' m c' l/\BW w W (bestTo bt x0 (l.take k))/\Fits (none::some (.func (.func 154) #[] #[.pointer (some ⟨B,0,none⟩)])::none::none::some (.pointer (some ⟨w.heap.size,0,none⟩))::some (.pointer (some ⟨w.heap.size+1,0,none⟩))::none::none::none::none::none::none::some (.slice A' m c')::some (.int .i64 (m:Nat))::some (.int .i64 (k:Nat))::none::none::none::none::none::none::none::none::none::none::[]) a.tmps.toList) m ?_ ?_
  ·refine⟨rfl,0,_,by omega,HS.out,HB0.out,?_⟩
   repeat (first|exact fits_nil|refine fits_none ?_|refine fits_some ?_)
  clear HB0 HS
  intro q a W hI K1 hK
  obtain⟨hds,k,c',hkq,hS,hB,hfit⟩:=hI
  obtain⟨f',hf'⟩:=fits_act hfit
  rw[hds]at hf'
  subst hf'
  clear hfit hds
  simp only[fillP,Nat.reduceAdd]
  have HB:=Lib.hid hB
  by_cases hlt:k<m
  ·first
   |(exfalso;omega)
   |(
    obtain⟨b',o',y,rfl,hgl,hy,y0,y1,y2,y3⟩:=Sl.ltP (hS.later hB.bel) hlt
    have hyl:y∈x0::l:=List.mem_cons_of_mem _ (List.mem_of_getElem? hy)
    have hol:bestTo bt x0 (l.take k)∈x0::l:=by
     rcases bestTo_mem bt x0 (l.take k)with h|h
     ·rw[h];simp
     ·exact List.mem_cons_of_mem _ (List.mem_of_mem_take h)
    have hst:bestTo bt x0 (l.take (k+1))=if bt y (bestTo bt x0 (l.take k))=true then y else bestTo bt x0 (l.take k):=by
     obtain⟨h1,h2⟩:=List.getElem?_eq_some_iff.1 hy
     rw[List.take_succ_eq_append_getElem h1,h2,bestTo_snoc]
    obtain⟨z,hz⟩:∃z,bestTo bt x0 (l.take k)=z:=⟨_,rfl⟩
    rw[hz]at hst hol hB HB
    have Hst:=Lib.hid hst
    have Hyl:=Lib.hid hyl
    have Hol:=Lib.hid hol
    have HS:=Lib.hid hS
    have u0:W.cell? ⟨w.heap.size+1,0,none⟩=some (.int .i64 (z.a:Nat)):=hB.b1.cell 0
    have u1:W.cell? ⟨w.heap.size+1,1,none⟩=some (.int .i64 (z.b:Nat)):=hB.b1.cell 1
    have u2:W.cell? ⟨w.heap.size+1,2,none⟩=some (.int .i64 (z.c:Nat)):=hB.b1.cell 2
    have u3:W.cell? ⟨w.heap.size+1,3,none⟩=some (.int .i64 z.s):=hB.b1.cell 3
    have u4:=hB.b1.lt
    have j1:(k:Int)<(m:Int):=by omega
    have j2:(0:Int)<=(k:Int):=by omega
    have j3:IntKind.i64.wrap ((k:Int)+1)=(k:Int)+1:=by rw[IntKind.wrap_i64];omega
    clear hy hst hyl hol hS hB hz
    go_wp2_with fail
    refine(Hbt.out _ y z (Below.later HB.out.bel (balloc (brefl W) _)) Hyl.out Hol.out).mono ?_
    rintro e w1⟨rfl,hb1⟩
    have HB1:=Lib.hid (HB.out.later (Below.later (balloc (brefl W) _) hb1))
    have Hy1:=Lib.hid ((Blk.new W 120 #[.int .i64 (y.a:Nat),.int .i64 (y.b:Nat),.int .i64 (y.c:Nat),.int .i64 y.s]).later hb1)
    clear hb1 y0 y1 y2 y3 u0 u1 u2 u3 u4
    have e0:w1.cell? ⟨W.heap.size,0,none⟩=some (.int .i64 (y.a:Nat)):=Hy1.out.cell 0
    have e1:w1.cell? ⟨W.heap.size,1,none⟩=some (.int .i64 (y.b:Nat)):=Hy1.out.cell 1
    have e2:w1.cell? ⟨W.heap.size,2,none⟩=some (.int .i64 (y.c:Nat)):=Hy1.out.cell 2
    have e3:w1.cell? ⟨W.heap.size,3,none⟩=some (.int .i64 y.s):=Hy1.out.cell 3
    have e4:=Hy1.out.lt
    have u0:w1.cell? ⟨w.heap.size+1,0,none⟩=some (.int .i64 (z.a:Nat)):=HB1.out.b1.cell 0
    have u1:w1.cell? ⟨w.heap.size+1,1,none⟩=some (.int .i64 (z.b:Nat)):=HB1.out.b1.cell 1
    have u2:w1.cell? ⟨w.heap.size+1,2,none⟩=some (.int .i64 (z.c:Nat)):=HB1.out.b1.cell 2
    have u3:w1.cell? ⟨w.heap.size+1,3,none⟩=some (.int .i64 z.s):=HB1.out.b1.cell 3
    have u4:=HB1.out.b1.lt
    have u5:=HB1.out.b1.frozen 0
    have u6:=HB1.out.b1.frozen 1
    have u7:=HB1.out.b1.frozen 2
    have u8:=HB1.out.b1.frozen 3
    cases hbz:bt y z with
    |true=>
     have Hst2:=Lib.hid (show bestTo bt x0 (l.take (k+1))=y by rw[Hst.out,hbz];rfl)
     clear hbz Hst
     go_wp2
     refine hK _ _ (q-1) (by omega) ⟨rfl,k+1,c',by omega,HS.out,by rw[Hst2.out];exact HB1.out.set y,?_⟩
     repeat (first|exact fits_nil|refine fits_none ?_|refine fits_some ?_)
    |false=>
     have Hst2:=Lib.hid (show bestTo bt x0 (l.take (k+1))=z by rw[Hst.out,hbz];rfl)
     clear hbz Hst
     go_wp2
     refine hK _ _ (q-1) (by omega) ⟨rfl,k+1,c',by omega,HS.out,by rw[Hst2.out];exact HB1.out,?_⟩
     repeat (first|exact fits_nil|refine fits_none ?_|refine fits_some ?_))
  ·obtain rfl:k=m:=by omega
   have htk:bestTo bt x0 (l.take k)=bestTo bt x0 l:=by rw[<-Hm.out,List.take_length]
   rw[htk]at hB HB
   have Htk:=Lib.hid htk
   obtain⟨z,hz⟩:∃z,bestTo bt x0 l=z:=⟨_,rfl⟩
   rw[hz]at hB HB
   have Hz:=Lib.hid hz
   have u0:W.cell? ⟨w.heap.size+1,0,none⟩=some (.int .i64 (z.a:Nat)):=hB.b1.cell 0
   have u1:W.cell? ⟨w.heap.size+1,1,none⟩=some (.int .i64 (z.b:Nat)):=hB.b1.cell 1
   have u2:W.cell? ⟨w.heap.size+1,2,none⟩=some (.int .i64 (z.c:Nat)):=hB.b1.cell 2
   have u3:W.cell? ⟨w.heap.size+1,3,none⟩=some (.int .i64 z.s):=hB.b1.cell 3
   have u4:=hB.b1.lt
   have v0:W.cell? ⟨w.heap.size,0,none⟩=some (.int .i64 0):=hB.b0.cell 0
   have v1:W.cell? ⟨w.heap.size,1,none⟩=some (.int .i64 0):=hB.b0.cell 1
   have v2:W.cell? ⟨w.heap.size,2,none⟩=some (.int .i64 0):=hB.b0.cell 2
   have v3:W.cell? ⟨w.heap.size,3,none⟩=some (.int .i64 0):=hB.b0.cell 3
   have v4:=hB.b0.frozen 0
   have v5:=hB.b0.frozen 1
   have v6:=hB.b0.frozen 2
   have v7:=hB.b0.frozen 3
   clear hK hB hS htk hz
   go_wp2
   refine bodyPost_ret (v:=pv z) (by simp[results,Tryz.results151,go_sem,v0,v1,v2,v3]) rfl ⟨by rw[<-Hz.out],bset (bset (bset (bset HB.out.bel (p:=⟨w.heap.size,0,none⟩) (Nat.le_refl _) _) (p:=⟨w.heap.size,1,none⟩) (Nat.le_refl _) _) (p:=⟨w.heap.size,2,none⟩) (Nat.le_refl _) _) (p:=⟨w.heap.size,3,none⟩) (Nat.le_refl _) _⟩
 ·have hS:Sl 4 encP w w.heap.size (some ⟨b,o+4,none⟩) m (c-1) l:=by
   have hs:=Hs.out
   refine⟨Hm.out,by omega,by have:=hs.big;omega,λ_=>⟨b,o+4,rfl,hb,λi x hx j u hu=>?_⟩⟩
   obtain⟨b',o',hA,_,hc⟩:=hs.at_ (by omega)
   cases hA
   have:=hc (i+1) x (by simpa using hx) j u hu
   rwa[show o+(i+1)*4+j=o+4+i*4+j by omega]at this
  have HS:=Lib.hid hS
  clear hS
  obtain⟨A',hA'⟩:∃A',(some ⟨b,o+4,none⟩:Option Addr)=A':=⟨_,rfl⟩
  rw[hA']at HS ⊢
  clear hA'
  have HB0:=Lib.hid (show BW w ((w.alloc (.cells #[.int .i64 0,.int .i64 0,.int .i64 0,.int .i64 0] 120)).alloc (.cells #[.int .i64 (x0.a:Nat),.int .i64 (x0.b:Nat),.int .i64 (x0.c:Nat),.int .i64 x0.s] 120)) (bestTo bt x0 (l.take 0))from⟨balloc (balloc (brefl w) _) _,(Blk.new w _ _).alloc _,by
   have:=Blk.new (w.alloc (.cells #[.int .i64 0,.int .i64 0,.int .i64 0,.int .i64 0] 120)) 120 #[.int .i64 (x0.a:Nat),.int .i64 (x0.b:Nat),.int .i64 (x0.c:Nat),.int .i64 x0.s]
   rwa[World.size_alloc]at this⟩)
  clear f0 f1 f2 f3
  refine loop_n (λq a W=>a.defers=[]/\∃k c':Nat,k+q=m/\Sl 4 encP w w.heap.size A' m c' l/\BW w W (bestTo bt x0 (l.take k))/\Fits (none::some (.func (.func 154) #[] #[.pointer (some ⟨B,0,none⟩)])::none::none::some (.pointer (some ⟨w.heap.size,0,none⟩))::some (.pointer (some ⟨w.heap.size+1,0,none⟩))::none::none::none::none::none::none::some (.slice A' m c')::some (.int .i64 (m:Nat))::some (.int .i64 (k:Nat))::none::none::none::none::none::none::none::none::none::none::[]) a.tmps.toList) m ?_ ?_
  ·refine⟨rfl,0,_,by omega,HS.out,HB0.out,?_⟩
   repeat (first|exact fits_nil|refine fits_none ?_|refine fits_some ?_)
  clear HB0 HS
  intro q a W hI K1 hK
  obtain⟨hds,k,c',hkq,hS,hB,hfit⟩:=hI
  obtain⟨f',hf'⟩:=fits_act hfit
  rw[hds]at hf'
  subst hf'
  clear hfit hds
  simp only[fillP,Nat.reduceAdd]
  have HB:=Lib.hid hB
  by_cases hlt:k<m
  ·first
   |(exfalso;omega)
   |(
    obtain⟨b',o',y,rfl,hgl,hy,y0,y1,y2,y3⟩:=Sl.ltP (hS.later hB.bel) hlt
    have hyl:y∈x0::l:=List.mem_cons_of_mem _ (List.mem_of_getElem? hy)
    have hol:bestTo bt x0 (l.take k)∈x0::l:=by
     rcases bestTo_mem bt x0 (l.take k)with h|h
     ·rw[h];simp
     ·exact List.mem_cons_of_mem _ (List.mem_of_mem_take h)
    have hst:bestTo bt x0 (l.take (k+1))=if bt y (bestTo bt x0 (l.take k))=true then y else bestTo bt x0 (l.take k):=by
     obtain⟨h1,h2⟩:=List.getElem?_eq_some_iff.1 hy
     rw[List.take_succ_eq_append_getElem h1,h2,bestTo_snoc]
    obtain⟨z,hz⟩:∃z,bestTo bt x0 (l.take k)=z:=⟨_,rfl⟩
    rw[hz]at hst hol hB HB
    have Hst:=Lib.hid hst
    have Hyl:=Lib.hid hyl
    have Hol:=Lib.hid hol
    have HS:=Lib.hid hS
    have u0:W.cell? ⟨w.heap.size+1,0,none⟩=some (.int .i64 (z.a:Nat)):=hB.b1.cell 0
    have u1:W.cell? ⟨w.heap.size+1,1,none⟩=some (.int .i64 (z.b:Nat)):=hB.b1.cell 1
    have u2:W.cell? ⟨w.heap.size+1,2,none⟩=some (.int .i64 (z.c:Nat)):=hB.b1.cell 2
    have u3:W.cell? ⟨w.heap.size+1,3,none⟩=some (.int .i64 z.s):=hB.b1.cell 3
    have u4:=hB.b1.lt
    have j1:(k:Int)<(m:Int):=by omega
    have j2:(0:Int)<=(k:Int):=by omega
    have j3:IntKind.i64.wrap ((k:Int)+1)=(k:Int)+1:=by rw[IntKind.wrap_i64];omega
    clear hy hst hyl hol hS hB hz
    go_wp2_with fail
    refine(Hbt.out _ y z (Below.later HB.out.bel (balloc (brefl W) _)) Hyl.out Hol.out).mono ?_
    rintro e w1⟨rfl,hb1⟩
    have HB1:=Lib.hid (HB.out.later (Below.later (balloc (brefl W) _) hb1))
    have Hy1:=Lib.hid ((Blk.new W 120 #[.int .i64 (y.a:Nat),.int .i64 (y.b:Nat),.int .i64 (y.c:Nat),.int .i64 y.s]).later hb1)
    clear hb1 y0 y1 y2 y3 u0 u1 u2 u3 u4
    have e0:w1.cell? ⟨W.heap.size,0,none⟩=some (.int .i64 (y.a:Nat)):=Hy1.out.cell 0
    have e1:w1.cell? ⟨W.heap.size,1,none⟩=some (.int .i64 (y.b:Nat)):=Hy1.out.cell 1
    have e2:w1.cell? ⟨W.heap.size,2,none⟩=some (.int .i64 (y.c:Nat)):=Hy1.out.cell 2
    have e3:w1.cell? ⟨W.heap.size,3,none⟩=some (.int .i64 y.s):=Hy1.out.cell 3
    have e4:=Hy1.out.lt
    have u0:w1.cell? ⟨w.heap.size+1,0,none⟩=some (.int .i64 (z.a:Nat)):=HB1.out.b1.cell 0
    have u1:w1.cell? ⟨w.heap.size+1,1,none⟩=some (.int .i64 (z.b:Nat)):=HB1.out.b1.cell 1
    have u2:w1.cell? ⟨w.heap.size+1,2,none⟩=some (.int .i64 (z.c:Nat)):=HB1.out.b1.cell 2
    have u3:w1.cell? ⟨w.heap.size+1,3,none⟩=some (.int .i64 z.s):=HB1.out.b1.cell 3
    have u4:=HB1.out.b1.lt
    have u5:=HB1.out.b1.frozen 0
    have u6:=HB1.out.b1.frozen 1
    have u7:=HB1.out.b1.frozen 2
    have u8:=HB1.out.b1.frozen 3
    cases hbz:bt y z with
    |true=>
     have Hst2:=Lib.hid (show bestTo bt x0 (l.take (k+1))=y by rw[Hst.out,hbz];rfl)
     clear hbz Hst
     go_wp2
     refine hK _ _ (q-1) (by omega) ⟨rfl,k+1,c',by omega,HS.out,by rw[Hst2.out];exact HB1.out.set y,?_⟩
     repeat (first|exact fits_nil|refine fits_none ?_|refine fits_some ?_)
    |false=>
     have Hst2:=Lib.hid (show bestTo bt x0 (l.take (k+1))=z by rw[Hst.out,hbz];rfl)
     clear hbz Hst
     go_wp2
     refine hK _ _ (q-1) (by omega) ⟨rfl,k+1,c',by omega,HS.out,by rw[Hst2.out];exact HB1.out,?_⟩
     repeat (first|exact fits_nil|refine fits_none ?_|refine fits_some ?_))
  ·obtain rfl:k=m:=by omega
   have htk:bestTo bt x0 (l.take k)=bestTo bt x0 l:=by rw[<-Hm.out,List.take_length]
   rw[htk]at hB HB
   have Htk:=Lib.hid htk
   obtain⟨z,hz⟩:∃z,bestTo bt x0 l=z:=⟨_,rfl⟩
   rw[hz]at hB HB
   have Hz:=Lib.hid hz
   have u0:W.cell? ⟨w.heap.size+1,0,none⟩=some (.int .i64 (z.a:Nat)):=hB.b1.cell 0
   have u1:W.cell? ⟨w.heap.size+1,1,none⟩=some (.int .i64 (z.b:Nat)):=hB.b1.cell 1
   have u2:W.cell? ⟨w.heap.size+1,2,none⟩=some (.int .i64 (z.c:Nat)):=hB.b1.cell 2
   have u3:W.cell? ⟨w.heap.size+1,3,none⟩=some (.int .i64 z.s):=hB.b1.cell 3
   have u4:=hB.b1.lt
   have v0:W.cell? ⟨w.heap.size,0,none⟩=some (.int .i64 0):=hB.b0.cell 0
   have v1:W.cell? ⟨w.heap.size,1,none⟩=some (.int .i64 0):=hB.b0.cell 1
   have v2:W.cell? ⟨w.heap.size,2,none⟩=some (.int .i64 0):=hB.b0.cell 2
   have v3:W.cell? ⟨w.heap.size,3,none⟩=some (.int .i64 0):=hB.b0.cell 3
   have v4:=hB.b0.frozen 0
   have v5:=hB.b0.frozen 1
   have v6:=hB.b0.frozen 2
   have v7:=hB.b0.frozen 3
   clear hK hB hS htk hz
   go_wp2
   refine bodyPost_ret (v:=pv z) (by simp[results,Tryz.results151,go_sem,v0,v1,v2,v3]) rfl ⟨by rw[<-Hz.out],bset (bset (bset (bset HB.out.bel (p:=⟨w.heap.size,0,none⟩) (Nat.le_refl _) _) (p:=⟨w.heap.size,1,none⟩) (Nat.le_refl _) _) (p:=⟨w.heap.size,2,none⟩) (Nat.le_refl _) _) (p:=⟨w.heap.size,3,none⟩) (Nat.le_refl _) _⟩
end Go.Proofs.YtednconodjeniaaGreat.P
