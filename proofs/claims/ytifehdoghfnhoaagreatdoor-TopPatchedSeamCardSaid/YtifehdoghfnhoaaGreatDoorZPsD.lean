/- Patch: Parts of a valid sheet without figure. -/
import Derived.Test.YtifehdoghfnhoaaGreatDoorZSThree
import Derived.Test.YtifehdoghfnhoaaGreatDoorZEvZ
import Derived.Test.YtifehdoghfnhoaaGreatDoorZPbN
namespace Go.Proofs.YtifehdoghfnhoaaGreatDoor.Ps
open Go.RowKit Go.Shelf
set_option maxHeartbeats 1000000 in
theorem less_ok(x y:Int)(w:World):Calls Tryz.prog 293 #[.int .i64 x,.int .i64 y] w λe w'=>e=.returned (.bool (decide (x<y)))/\Below w.heap.size w w':=by
 have HN:=Lib.hid (λ(z:Int)(W:World)=>show Calls Tryz.prog 357 #[.int .i64 z] W (λe w'=>e=.returned (.bool false)/\Below W.heap.size W w')by
  go_enter Tryz.func357,Tryz.ntmps357
  go_wp2_with fail
  go_ret
  exact⟨rtB (by simp),brefl W⟩)
 go_enter Tryz.func293,Tryz.ntmps293
 go_wp2_with fail
 refine(HN.out x w).mono ?_
 rintro e w1⟨rfl,hb1⟩
 have HB:=Lib.hid hb1
 clear hb1
 go_wp2_with fail
 go_ret
 exact⟨rtB (by simp),HB.out⟩
set_option maxRecDepth 100000 in
set_option maxHeartbeats 4000000 in
theorem insOrd_any(b c:Nat)(l:List Nat)(tail:List Value)(w:World)(hb:Blk w b 3 (lArr l tail))(hl:l.length<=12):
 Calls Tryz.prog 287 #[.slice (some ⟨b,0,none⟩) l.length c,.int .i64 0,.int .i64 (l.length:Nat)] w λe w'=>e=.returned (.tuple #[])/\∃l',l'.Perm l/\SR w w' b l' tail:=by
 have HS:=Lib.hid (show SR w w b l tail from⟨World.grownBy.refl w _,hb⟩)
 have HLess:=Lib.hid less_ok
 clear hb
 obtain⟨n,hn⟩:∃n,l.length=n:=⟨_,rfl⟩
 have Hn:=Lib.hid hn
 rw[hn]at hl ⊢
 clear hn
 go_enter Tryz.func287,Tryz.ntmps287
 go_wp2_with fail
 refine lpn (λm a W=>a.defers=[]/\∃(i:Nat)(l1:List Nat),1<=i/\i+m=n+1/\l1.Perm l/\SR w W b l1 tail/\Fits (some (.slice (some ⟨b,0,none⟩) n c)::some (.int .i64 0)::some (.int .i64 (n:Nat))::none::none::none::some (.int .i64 (i:Nat))::none::none::none::none::none::none::none::none::none::none::none::none::none::none::none::none::none::none::none::none::none::none::none::none::none::none::none::none::none::none::none::none::none::none::none::none::none::none::none::none::none::none::[]) a.tmps.toList) n ?_ ?_
 ·refine⟨rfl,1,l,by omega,by omega,List.Perm.refl _,HS.out,?_⟩
  repeat (first|exact ftL|refine ftN ?_|refine ftS ?_)
 clear HS
 intro m a W hI K hK
 obtain⟨hds,i,l1,hi1,him,hp,hS,hfit⟩:=hI
 obtain⟨f,hf⟩:=ftA hfit
 rw[hds]at hf
 subst hf
 clear hfit hds
 simp only[fillP,Nat.reduceAdd]
 have HS:=Lib.hid hS
 have Hp:=Lib.hid hp
 have HK:=Lib.hid (@hK)
 clear hp hS hK
 by_cases hlt:i<n
 ·have i1:(i:Int)<(n:Int):=by omega
  have i3:IntKind.i64.wrap ((i:Int)+1)=((i+1:Nat):Int):=by rw[IntKind.wrap_i64];omega
  have Him:=Lib.hid (show 1<=i/\i+m=n+1/\i<n/\n<=12 from⟨hi1,him,hlt,hl⟩)
  clear hi1 him
  go_wp2_with fail
  refine lpn (λr a W=>a.defers=[]/\∃(l2:List Nat),r<=i/\l2.Perm l/\SR w W b l2 tail/\Fits (some (.slice (some ⟨b,0,none⟩) n c)::some (.int .i64 0)::some (.int .i64 (n:Nat))::none::none::none::some (.int .i64 (i:Nat))::some (.int .i64 (r:Nat))::none::none::none::none::none::none::none::none::none::none::none::none::none::none::none::none::none::none::none::none::none::none::none::none::none::none::none::none::none::none::none::none::none::none::none::none::none::none::none::none::none::[]) a.tmps.toList) i ?_ ?_
  ·refine⟨rfl,l1,Nat.le_refl _,Hp.out,HS.out,?_⟩
   repeat (first|exact ftL|refine ftN ?_|refine ftS ?_)
  clear HS Hp
  clear W l1
  intro j a W hI K2 hK2
  obtain⟨hds,l2,hji,hp,hS,hfit⟩:=hI
  obtain⟨f,hf⟩:=ftA hfit
  rw[hds]at hf
  subst hf
  clear hfit hds
  simp only[fillP,Nat.reduceAdd]
  have HS:=Lib.hid hS
  have Hp:=Lib.hid hp
  have HK2:=Lib.hid (@hK2)
  have Hll:=Lib.hid (show l2.length=n by rw[hp.length_eq];exact Hn.out)
  have Hji:=Lib.hid hji
  clear hp hK2 hji
  cases j with
  |zero=>
   clear hS
   go_wp2_with fail
   refine dag 15 (by kernel_rfl) (by kernel_rfl) (.is ?_::.is ?_::.is ?_::.is ?_::.is ?_::.is ?_::.is ?_::.is ?_::.is ?_::.is ?_::.is ?_::.is ?_::.is ?_::.is ?_::.is ?_::[]) rfl ?st1 ?ob1
   case st1=>simp[Spec.ok]
   case ob1=>
    intro env W' hG
    repeat (refine obI ?_ ?_;unfold dsA;go_simp;(try go_bits);(first|(refine⟨brefl _,?_⟩;rfl)|rfl);intro K hK;go_simp;refine hK _ ?_;clear hK K)
    refine obN (λ_=>?_)
    have HS2:=Lib.hid (HS.out.later hG)
    clear hG
    go_wp2_with fail
    obtain⟨j1,j2,j3,j4⟩:=Him.out
    refine HK.out _ _ (m-1) (by omega) ⟨rfl,i+1,l2,by omega,by omega,Hp.out,HS2.out,?_⟩
    repeat (first|exact ftL|refine ftN ?_|refine ftS ?_)
  |succ k=>
   have hkl:k+1<l2.length:=by rw[Hll.out];have:=Hji.out;have:=Him.out;omega
   obtain⟨x,hx⟩:∃x,l2[k+1]? =some x:=⟨_,List.getElem?_eq_getElem hkl⟩
   obtain⟨y,hy⟩:∃y,l2[k]? =some y:=⟨_,List.getElem?_eq_getElem (by omega)⟩
   have hkn:k+1<n:=by rw[<-Hll.out];exact hkl
   have i4:IntKind.i64.wrap ((k:Int)+1-1)=(k:Int):=by rw[IntKind.wrap_i64];have:=Him.out;omega
   have i5:(k:Int)+1<(n:Int):=by omega
   have i6:(k:Int)<(n:Int):=by omega
   have i7:(0:Int)<=(k:Int):=by omega
   have i8:(0:Int)<=(k:Int)+1:=by omega
   have i9:((k:Int)+1).toNat=k+1:=by omega
   have i10:(0:Int)<(k:Int)+1:=by omega
   have Hx:=Lib.hid hx
   have Hy:=Lib.hid hy
   have Hkl:=Lib.hid hkl
   clear hS hx hy hkl hkn
   obtain⟨d,hd⟩:∃d,decide ((x:Int)<(y:Int))=d:=⟨_,rfl⟩
   have HL1:=Lib.hid (λW=>by
    have h1:=HLess.out (x:Int) (y:Int) W
    rw[hd]at h1
    exact h1)
   clear hd
   go_wp2_with fail
   cases d with
   |true=>
    refine dag 15 (by kernel_rfl) (by kernel_rfl) (.is ?_::.is ?_::.is ?_::.is ?_::.is ?_::.is ?_::.is ?_::.is ?_::.is ?_::.is ?_::.is ?_::.is ?_::.is ?_::.is ?_::.is ?_::[]) rfl ?st2 ?ob2
    case st2=>simp[Spec.ok]
    case ob2=>
     intro env W' hG
     have HS2:=Lib.hid (HS.out.later hG)
     have d0:=(HS2.out.blk.cell (k+1)).trans (lArr_get Hx.out)
     have d1:=(HS2.out.blk.cell k).trans (lArr_get Hy.out)
     have d2:=HS2.out.blk.lt
     iterate 13 (refine obI ?_ ?_;unfold dsA;go_simp;(try go_bits);(first|(refine⟨brefl _,?_⟩;rfl)|rfl);intro K hK;go_simp;refine hK _ ?_;clear hK K)
     refine obI ?_ ?_
     ·unfold dsA
      go_simp
      refine(HL1.out W').mono ?_
      rintro e w1⟨rfl,hb1⟩
      refine⟨?_,hb1⟩
      rfl
     intro K hK
     go_simp
     refine hK _ ?_
     clear hK K
     (refine obI ?_ ?_;unfold dsA;go_simp;(try go_bits);(first|(refine⟨brefl _,?_⟩;rfl)|rfl);intro K hK;go_simp;refine hK _ ?_;clear hK K)
     refine obN (λ_=>?_)
     have d3:=HS2.out.blk.frozen (k+1)
     have d4:=HS2.out.blk.frozen k
     have hS3:=(HS2.out.set (j:=k+1) Hkl.out y).set (j:=k) (by simp;have:=Hkl.out;omega) x
     have HS3:=Lib.hid hS3
     clear hG hS3
     go_wp2_with fail
     go_region
     go_wp2_with fail
     refine HK2.out _ _ k (by omega) ⟨rfl,_,by have:=Hji.out;omega,(swapL_perm Hx.out Hy.out).trans Hp.out,HS3.out.later (brefl _).drew,?_⟩
     repeat (first|exact ftL|refine ftN ?_|refine ftS ?_)
   |false=>
    refine dag 15 (by kernel_rfl) (by kernel_rfl) (.is ?_::.is ?_::.is ?_::.is ?_::.is ?_::.is ?_::.is ?_::.is ?_::.is ?_::.is ?_::.is ?_::.is ?_::.is ?_::.is ?_::.is ?_::[]) rfl ?st3 ?ob3
    case st3=>simp[Spec.ok]
    case ob3=>
     intro env W' hG
     have HS2:=Lib.hid (HS.out.later hG)
     have d0:=(HS2.out.blk.cell (k+1)).trans (lArr_get Hx.out)
     have d1:=(HS2.out.blk.cell k).trans (lArr_get Hy.out)
     have d2:=HS2.out.blk.lt
     iterate 13 (refine obI ?_ ?_;unfold dsA;go_simp;(try go_bits);(first|(refine⟨brefl _,?_⟩;rfl)|rfl);intro K hK;go_simp;refine hK _ ?_;clear hK K)
     refine obI ?_ ?_
     ·unfold dsA
      go_simp
      refine(HL1.out W').mono ?_
      rintro e w1⟨rfl,hb1⟩
      refine⟨?_,hb1⟩
      rfl
     intro K hK
     go_simp
     refine hK _ ?_
     clear hK K
     (refine obI ?_ ?_;unfold dsA;go_simp;(try go_bits);(first|(refine⟨brefl _,?_⟩;rfl)|rfl);intro K hK;go_simp;refine hK _ ?_;clear hK K)
     refine obN (λ_=>?_)
     clear hG d0 d1 d2
     go_wp2_with fail
     obtain⟨j1,j2,j3,j4⟩:=Him.out
     refine HK.out _ _ (m-1) (by omega) ⟨rfl,i+1,l2,by omega,by omega,Hp.out,HS2.out,?_⟩
     repeat (first|exact ftL|refine ftN ?_|refine ftS ?_)
 ·have i1:¬((i:Int)<(n:Int)):=by omega
  clear HK
  go_wp2_with fail
  go_end0
  exact⟨rfl,l1,Hp.out,HS.out⟩
set_option maxRecDepth 100000 in
set_option maxHeartbeats 2000000 in
theorem pdq_any(b c:Nat)(l:List Nat)(tail:List Value)(r:Int)(w:World)(hb:Blk w b 3 (lArr l tail))(hl:l.length<=12):
 Calls Tryz.prog 202 #[.slice (some ⟨b,0,none⟩) l.length c,.int .i64 0,.int .i64 (l.length:Nat),.int .i64 r] w λe w'=>e=.returned (.tuple #[])/\∃l',l'.Perm l/\SR w w' b l' tail:=by
 have H:=Lib.hid (insOrd_any b c l tail w hb hl)
 obtain⟨n,hn⟩:∃n,l.length=n:=⟨_,rfl⟩
 rw[hn]at hl H ⊢
 have i1:(n:Int)<=12:=by omega
 have i2:IntKind.i64.wrap (n:Int)=(n:Int):=by rw[IntKind.wrap_i64];omega
 clear hb hn
 go_enter Tryz.func202,Tryz.ntmps202
 go_wp2_with fail
 refine wp_loop_rounds 1 ?_
 rw[rounds_succ]
 go_wp2_with fail
 refine H.out.mono ?_
 rintro e w1⟨rfl,hR⟩
 have HR:=Lib.hid hR
 clear hR
 go_wp2_with fail
 refine bodyPost_ret (v:=.tuple #[]) ?_ rfl ⟨rfl,HR.out⟩
 simp[results,Tryz.results202,go_sem]
set_option maxRecDepth 100000 in
theorem bits_len(n:Nat)(hn:n<=10)(W:World):∃r:Int,Calls Tryz.prog 203 #[.int .u64 (n:Nat)] W λe W'=>e=.returned (.int .i64 r)/\Below W.heap.size W W':=by
 have hk:∀(k:Nat)(r:Int),(match Ev.evN Tryz.prog Ev.mapsH Ev.fnT.get Ev.strOrc 30 (.fn 203) [.lit (.int .u64 (.ofNat k))] (λ_=>none) 0 with|some ⟨.lit u,_,_⟩=>some u|_=>none)=some (.int .i64 r)->Calls Tryz.prog 203 #[.int .u64 (k:Nat)] W λe W'=>e=.returned (.int .i64 r)/\Below W.heap.size W W':=λk r h=>
  Ev.reckon (hk:=Ev.mapsH) Ev.mapsH_ok rfl Ev.mixed_ok Ev.fnT_ok Ev.strOrc_ok (d:=30) (f:=203) (args:=[.int .u64 (.ofNat k)]) (v:=.int .i64 r) h W
 obtain rfl|rfl|rfl|rfl|rfl|rfl|rfl|rfl|rfl|rfl|rfl:n=0\/n=1\/n=2\/n=3\/n=4\/n=5\/n=6\/n=7\/n=8\/n=9\/n=10:=by omega
 ·exact⟨0,hk 0 0 (by kernel_rfl)⟩
 ·exact⟨1,hk 1 1 (by kernel_rfl)⟩
 ·exact⟨2,hk 2 2 (by kernel_rfl)⟩
 ·exact⟨2,hk 3 2 (by kernel_rfl)⟩
 ·exact⟨3,hk 4 3 (by kernel_rfl)⟩
 ·exact⟨3,hk 5 3 (by kernel_rfl)⟩
 ·exact⟨3,hk 6 3 (by kernel_rfl)⟩
 ·exact⟨3,hk 7 3 (by kernel_rfl)⟩
 ·exact⟨4,hk 8 4 (by kernel_rfl)⟩
 ·exact⟨4,hk 9 4 (by kernel_rfl)⟩
 ·exact⟨4,hk 10 4 (by kernel_rfl)⟩
theorem own_arr{W:World}{B g n cap:Nat}{xs:List Nat}(h:W.ownsRow B 3 1 (.slice (some ⟨g,0,none⟩) n cap) n (xs.map encN)):B<=g/\xs.length=n/\∃tail,Blk W g 3 (lArr xs tail)/\(∀ys:List Nat,ys.length=n->∀W',W.heap.size<=W'.heap.size->Blk W' g 3 (lArr ys tail)->W'.ownsRow B 3 1 (.slice (some ⟨g,0,none⟩) n cap) n (ys.map encN)):=by
 have hl:=h.1
 rcases h.2 with⟨h1,_⟩|⟨g',cap',cur,h1,hg,hc,hcap,hmax,hsz,htake⟩
 ·cases h1
 ·simp only[Value.slice.injEq,Option.some.injEq,Addr.mk.injEq,true_and,and_true]at h1
  obtain⟨rfl,rfl⟩:=h1
  have hxl:xs.length=n:=by simpa using hl
  rw[Nat.mul_one]at htake hsz
  refine⟨hg,hxl,cur.toList.drop n,?_,λys hy W' _ hb=>?_⟩
  ·have e:lArr xs (cur.toList.drop n)=cur:=by
    unfold lArr
    rw[<-htake,List.take_append_drop]
   rw[e]
   exact hc
  ·have hys:(ys.map encN).length=n:=by simpa using hy
   refine⟨by rw[Nat.mul_one];exact hys,.inr ⟨g,cap,_,rfl,hg,hb,hcap,hmax,?_,?_⟩⟩
   ·unfold lArr
    simp only[List.size_toArray,List.length_append,List.length_drop,Array.length_toList,hys]
    omega
   ·unfold lArr
    rw[Nat.mul_one]
    show(ys.map encN++cur.toList.drop n).take n=ys.map encN
    rw[List.take_append_of_le_length (by omega),List.take_of_length_le (by omega)]
set_option maxHeartbeats 2000000 in
theorem sort_ok(B g n cap:Nat)(xs:List Nat)(w:World)(h:w.ownsRow B 3 1 (.slice (some ⟨g,0,none⟩) n cap) n (xs.map encN))(hn:n<=10)(hB:B<=w.heap.size):
 Calls Tryz.prog 102 #[.slice (some ⟨g,0,none⟩) n cap] w λe w'=>e=.returned (.tuple #[])/\Below B w w'/\∃ys:List Nat,ys.Perm xs/\w'.ownsRow B 3 1 (.slice (some ⟨g,0,none⟩) n cap) n (ys.map encN):=by
 obtain⟨hBg,hl,tail,hblk,hback⟩:=own_arr h
 subst hl
 have Hback:=Lib.hid hback
 have Hblk:=Lib.hid hblk
 have HBg:=Lib.hid (show B<=g/\B<=w.heap.size from⟨hBg,hB⟩)
 have Hlen:=Lib.hid (λW=>bits_len xs.length hn W)
 have Hpdq:=Lib.hid (λr W(hb:Blk W g 3 (lArr xs tail))=>pdq_any g cap xs tail r W hb (by omega))
 obtain⟨n,hnn⟩:∃n,xs.length=n:=⟨_,rfl⟩
 have Hnn:=Lib.hid hnn
 rw[hnn]at Hback Hlen Hpdq hn ⊢
 have i1:IntKind.u64.wrap (n:Int)=(n:Int):=by rw[IntKind.wrap_u64];omega
 have Hn:=Lib.hid hn
 clear h hB hBg hblk hback hnn hn
 obtain⟨r,hr⟩:=Hlen.out w
 have Hr:=Lib.hid hr
 clear hr Hlen
 go_enter Tryz.func102,Tryz.ntmps102
 go_wp2_with fail
 refine Hr.out.mono ?_
 rintro e w1⟨rfl,hb1⟩
 have HB1:=Lib.hid hb1
 have Hb1:=Lib.hid (Hblk.out.later hb1)
 clear hb1 Hr
 go_wp2_with fail
 refine(Hpdq.out r w1 Hb1.out).mono ?_
 rintro e w2⟨rfl,ys,hp,hS⟩
 have HS:=Lib.hid hS
 have Hp:=Lib.hid hp
 clear hS hp
 go_wp2_with fail
 go_end0
 have h1:=HBg.out
 have h2:=HB1.out.size
 have h3:=HS.out.gr.size
 refine⟨rfl,?_,ys,Hp.out,Hback.out ys (by rw[Hp.out.length_eq];exact Hnn.out) w2 (by omega) HS.out.blk⟩
 exact⟨HS.out.gr.os.trans HB1.out.os,HS.out.gr.tape.trans HB1.out.tape,HS.out.gr.output.trans HB1.out.output,Nat.le_trans h2 h3,λk hk=>(HS.out.gr.block k (by omega) (by simp;omega)).trans (HB1.out.block k (by omega))⟩
end Go.Proofs.YtifehdoghfnhoaaGreatDoor.Ps
namespace Go.Proofs.YtifehdoghfnhoaaGreatDoor.Pa
open Go.RowKit Go.Shelf Go.Proofs.YtifehdoghfnhoaaGreatDoor.C
structure SlL(W:World)(A:Option Addr)(n c:Nat)(xs:List (List Nat)):Prop where
 len:xs.length=n
 cap:n<=c
 big:c<=maxLen
 at_:∀i l,xs[i]? =some l->∃b o A' c',A=some ⟨b,o,none⟩/\b<W.heap.size/\W.cell? ⟨b,o+i,none⟩=some (.slice A' l.length c')/\Sl 1 encI W W.heap.size A' l.length c' (castL l)
theorem SlL.later{W W':World}{A:Option Addr}{n c:Nat}{xs:List (List Nat)}(h:SlL W A n c xs)(hb:Below W.heap.size W W'):SlL W' A n c xs:=
 ⟨h.len,h.cap,h.big,λi l hi=>by
   obtain⟨b,o,A',c',h1,h2,h3,h4⟩:=h.at_ i l hi
   exact⟨b,o,A',c',h1,Nat.lt_of_lt_of_le h2 hb.size,(hb.cell (p:=⟨b,o+i,none⟩) h2).trans h3,h4.later hb⟩⟩
set_option maxHeartbeats 2000000 in
theorem indexLL(g:Nat)(lb:Array Value)(eg:∀args w,(callFunc g args).run Tryz.prog w=.ok (.enter g args) w)(p:List Nat->Bool)(A:Option Addr)(n c:Nat)(xs:List (List Nat))(w:World)
 (hs:SlL w A n c xs)
 (hp:∀x A' c' W,x∈xs->Below w.heap.size w W->Sl 1 encI W W.heap.size A' x.length c' (castL x)->Calls Tryz.prog g (#[.slice A' x.length c']++lb) W λe W'=>e=.returned (.bool (p x))/\Below W.heap.size W W'):
 Calls Tryz.prog 200 #[.slice A n c,.func (.func g) #[] lb] w λe w'=>e=.returned (.int .i64 (idxB p xs 0))/\Below w.heap.size w w':=by
 have hl:=hs.len
 have hcap:=hs.cap
 have hbig:=hs.big
 simp only[maxLen]at hbig
 have Hp:=Lib.hid hp
 clear hp
 go_enter Tryz.func200,Tryz.ntmps200
 go_wp2
 go_loopw [8] (λi wr=>∃k:Nat,k<=n/\i=.int .i64 k/\(∀j x,j<k->xs[j]? =some x->p x=false)/\Below w.heap.size w wr) (λi _=>n-(intOf i).toNat)
 case atStart=>exact⟨0,by omega,rfl,by omega,Below.refl _ _⟩
 case round=>
  obtain⟨k,hk,rfl,hno,hb⟩:=hrel
  by_cases hlt:k<n
  ·obtain⟨x,hx⟩:∃x,xs[k]? =some x:=⟨_,List.getElem?_eq_getElem (by omega)⟩
   obtain⟨b,o,A',c',rfl,hB,hc0,hsl⟩:=(hs.later hb).at_ k x hx
   have Hsl:=Lib.hid hsl
   have Hno:=Lib.hid hno
   have Hx:=Lib.hid hx
   have Hb:=Lib.hid hb
   clear hno hx hb hsl
   go_wp2_with (go_at_fn g;refine(Hp.out x A' c' _ (List.mem_of_getElem? Hx.out) Hb.out Hsl.out).mono ?_;rintro e w1 ⟨rfl,hb1⟩)
   ·have hpx:p x=true:=by assumption
    go_ret
    exact⟨ret_int (idxB_at Hno.out Hx.out hpx).symm,Below.later Hb.out hb1⟩
   ·have hpx:p x=false:=by assumption
    go_roundw
    case rel=>exact⟨k+1,by omega,by go_num,no_succ Hno.out Hx.out hpx,Below.later Hb.out hb1⟩
    case measure=>simp[intOf];omega
  ·obtain rfl:k=n:=by omega
   have Hno:=Lib.hid hno
   have Hb:=Lib.hid hb
   clear hno hb
   go_wp2
   go_ret
   exact⟨ret_int (idxB_no (by rw[hl];exact Hno.out)).symm,Hb.out⟩
set_option maxHeartbeats 400000 in
theorem containsLL(g:Nat)(lb:Array Value)(eg:∀args w,(callFunc g args).run Tryz.prog w=.ok (.enter g args) w)(p:List Nat->Bool)(A:Option Addr)(n c:Nat)(xs:List (List Nat))(w:World)
 (hs:SlL w A n c xs)
 (hp:∀x A' c' W,x∈xs->Below w.heap.size w W->Sl 1 encI W W.heap.size A' x.length c' (castL x)->Calls Tryz.prog g (#[.slice A' x.length c']++lb) W λe W'=>e=.returned (.bool (p x))/\Below W.heap.size W W'):
 Calls Tryz.prog 99 #[.slice A n c,.func (.func g) #[] lb] w λe w'=>e=.returned (.bool (xs.any p))/\Below w.heap.size w w':=by
 have H:=Lib.hid (indexLL g lb eg p A n c xs w hs hp)
 clear hs hp
 go_enter Tryz.func99,Tryz.ntmps99
 go_wp2_with (go_at_call 200;refine H.out.mono ?_;rintro e w1 ⟨rfl,hb1⟩)
 go_ret
 exact⟨rtB (idxB_ge p xs 0),hb1⟩
structure RowI(W:World)(u:Value)(l:List Nat):Prop where
 row:∃g cap cs,u=.slice (some ⟨g,0,none⟩) l.length cap/\l.length<=cap/\cap<=maxLen/\Blk W g 3 cs/\∀(j x:Nat),l[j]? =some x->cs[j]? =some (.int .i64 (x:Nat))
theorem RowI.later{W W':World}{u:Value}{l:List Nat}(h:RowI W u l)(hb:Below W.heap.size W W'):RowI W' u l:=by
 obtain⟨g,cap,cs,h1,h2,h3,h4,h5⟩:=h.row
 exact⟨g,cap,cs,h1,h2,h3,h4.later hb,h5⟩
theorem RowI.grown{W W':World}{u v:Value}{l:List Nat}{B n:Nat}{xs:List Value}(h:RowI W u l)(ho:W.ownsRow B 43 1 v n xs)(hg:W.grownBy W' v.ownBlock):RowI W' u l:=by
 obtain⟨g,cap,cs,h1,h2,h3,h4,h5⟩:=h.row
 exact⟨g,cap,cs,h1,h2,h3,h4.grown hg (h4.notRow ho (by decide)),h5⟩
theorem RowI.sl{W:World}{u:Value}{l:List Nat}(h:RowI W u l):∃A c,u=.slice A l.length c/\Sl 1 encI W W.heap.size A l.length c (castL l):=by
 obtain⟨g,cap,cs,h1,h2,h3,h4,h5⟩:=h.row
 refine⟨some ⟨g,0,none⟩,cap,h1,castL_len l,h2,by simp only[maxLen]at h3;omega,λ_=>⟨g,0,rfl,h4.lt,λj x hx k u hu=>?_⟩⟩
 have hk:k<1:=(List.getElem?_eq_some_iff.1 hu).1
 obtain rfl:k=0:=by omega
 simp only[encI]at hu
 have hx2:∃y:Nat,l[j]? =some y/\x=(y:Int):=by
  unfold castL at hx
  rw[List.getElem?_map]at hx
  cases hy:l[j]? with
  |none=>rw[hy]at hx;cases hx
  |some y=>
   rw[hy]at hx
   exact⟨y,rfl,by simpa using hx.symm⟩
 obtain⟨y,hy,rfl⟩:=hx2
 rw[show 0+j*1+0=j by omega,h4.cell,h5 j y hy]
 simpa using hu
theorem RowI.of_own{W:World}{B g cap:Nat}{l:List Nat}{n:Nat}(h:W.ownsRow B 3 1 (.slice (some ⟨g,0,none⟩) n cap) n (l.map encN))(hn:l.length=n):RowI W (.slice (some ⟨g,0,none⟩) n cap) l:=by
 subst hn
 rcases h.2 with⟨h1,_⟩|⟨g',cap',cur,h1,hg,hc,hcap,hmax,hsz,htake⟩
 ·cases h1
 ·simp only[Value.slice.injEq,Option.some.injEq,Addr.mk.injEq,true_and,and_true]at h1
  obtain⟨rfl,rfl⟩:=h1
  refine⟨g,cap,cur,rfl,hcap,hmax,hc,λj x hx=>?_⟩
  have hj:=(List.getElem?_eq_some_iff.1 hx).1
  have h2:(l.map encN)[j]? =some (.int .i64 (x:Nat)):=by rw[List.getElem?_map,hx];rfl
  rw[<-htake,List.getElem?_take_of_lt (by omega)]at h2
  simpa using h2
structure LL(W:World)(B:Nat)(v:Value)(xs:List (List Nat)):Prop where
 own:∃vs:List Value,W.ownsRow B 43 1 v xs.length vs/\∀(i:Nat)(l:List Nat),xs[i]? =some l->∃u,vs[i]? =some u/\RowI W u l
theorem LL.nil(W:World)(B:Nat):LL W B (.slice none 0 0) []:=⟨[],World.ownsRow_nil _ _ _ _,λi l h=>by simp at h⟩
theorem LL.later{W W':World}{B:Nat}{v:Value}{xs:List (List Nat)}(h:LL W B v xs)(hb:Below W.heap.size W W'):LL W' B v xs:=by
 obtain⟨vs,h1,h2⟩:=h.own
 exact⟨vs,owL h1 hb,λi l hi=>by
  obtain⟨u,h3,h4⟩:=h2 i l hi
  exact⟨u,h3,h4.later hb⟩⟩
theorem LL.sl{W:World}{B:Nat}{v:Value}{xs:List (List Nat)}(h:LL W B v xs):∃A c,v=.slice A xs.length c/\SlL W A xs.length c xs:=by
 obtain⟨vs,h1,h2⟩:=h.own
 have hl:=h1.1
 rcases h1.2 with⟨rfl,h0⟩|⟨g,cap,cur,rfl,hg0,hg,hcap,hmax,hsz,htake⟩
 ·rw[h0]
  exact⟨none,0,rfl,h0,Nat.le_refl _,by simp[maxLen],λi l hi=>by
   have:=(List.getElem?_eq_some_iff.1 hi).1
   omega⟩
 ·refine⟨some ⟨g,0,none⟩,cap,rfl,rfl,hcap,hmax,λi l hi=>?_⟩
  obtain⟨u,h3,h4⟩:=h2 i l hi
  obtain⟨A,c,rfl,h5⟩:=h4.sl
  have hlt:=(List.getElem?_eq_some_iff.1 hi).1
  refine⟨g,0,A,c,rfl,(Array.getElem?_eq_some_iff.1 hg).1,?_,h5⟩
  rw[<-h3,<-htake,List.getElem?_take_of_lt (by omega),Nat.zero_add]
  simp[World.cell?,hg]
theorem LL.app{W W':World}{B:Nat}{v v' u:Value}{xs:List (List Nat)}{l:List Nat}{vs:List Value}(h1:W.ownsRow B 43 1 v xs.length vs)(h2:∀(i:Nat)(l:List Nat),xs[i]? =some l->∃u,vs[i]? =some u/\RowI W u l) (hu:RowI W u l) (hg:W.grownBy W' v.ownBlock) (ho:W'.ownsRow B 43 1 v' (xs.length+1) (vs++[u])):LL W' B v' (xs++[l]):=by
 have hvl:vs.length=xs.length:=by have:=h1.1;omega
 refine⟨vs++[u],by simpa using ho,λi l' hi=>?_⟩
 by_cases hlt:i<xs.length
 ·rw[List.getElem?_append_left hlt]at hi
  obtain⟨u',h3,h4⟩:=h2 i l' hi
  exact⟨u',by rw[List.getElem?_append_left (by omega)];exact h3,h4.grown h1 hg⟩
 ·have hie:i=xs.length:=by
   have:=(List.getElem?_eq_some_iff.1 hi).1
   simp at this
   omega
  subst hie
  rw[List.getElem?_append_right (Nat.le_refl _),Nat.sub_self]at hi
  simp only[List.getElem?_cons_zero,Option.some.injEq]at hi
  subst hi
  refine⟨u,?_,hu.grown h1 hg⟩
  rw[List.getElem?_append_right (by omega),hvl,Nat.sub_self]
  rfl
end Go.Proofs.YtifehdoghfnhoaaGreatDoor.Pa
namespace Go.Proofs.YtifehdoghfnhoaaGreatDoor.Pa
open Go.RowKit Go.Shelf Go.Proofs.YtifehdoghfnhoaaGreatDoor.C
theorem nodup_len:∀(n:Nat)(l:List Nat),l.Nodup->(∀x∈l,x<n)->l.length<=n
 |0,l,_,h=>by
  cases l with
  |nil=>exact Nat.le_refl _
  |cons x l=>exact absurd (h x (by simp)) (by omega)
 |n+1,l,hn,h=>by
  by_cases hm:n∈l
  ·have h1:=nodup_len n (l.erase n) (hn.erase n) (λx hx=>by
    have h2:=(hn.mem_erase_iff).1 hx
    have:=h x h2.2
    have:=h2.1
    omega)
   rw[List.length_erase_of_mem hm]at h1
   omega
  ·have h1:=nodup_len n l hn (λx hx=>by
    have:=h x hx
    have:x≠n:=λe=>hm (e▸hx)
    omega)
   omega
structure Grow(sh:Nat->Nat->Bool)(n i:Nat)(l:List Nat):Prop where
 mem:i∈l
 lt:∀x∈l,x<n
 nd:l.Nodup
 from_:∀P:Nat->Prop,P i->(∀x k,P x->k<n->sh x k=true->P k)->∀x∈l,P x
structure PartOf(sh:Nat->Nat->Bool)(n i:Nat)(l:List Nat):Prop where
 mem:i∈l
 lt:∀x∈l,x<n
 from_:∀P:Nat->Prop,P i->(∀x k,P x->k<n->sh x k=true->P k)->∀x∈l,P x
 closed:∀x∈l,∀k,k<n->sh x k=true->k∈l
inductive PartsTo(sh:Nat->Nat->Bool)(n:Nat):Nat->List (List Nat)->Prop where
 |nil:PartsTo sh n 0 []
 |skip {i:Nat} {out:List (List Nat)}:PartsTo sh n i out->(∃l∈out,i∈l)->PartsTo sh n (i+1) out
 |add {i:Nat} {out:List (List Nat)} {l:List Nat}:PartsTo sh n i out->(∀l'∈out,i∉l')->PartOf sh n i l->PartsTo sh n (i+1) (out++[l])
theorem PartsTo.len{sh:Nat->Nat->Bool}{n i:Nat}{out:List (List Nat)}(h:PartsTo sh n i out):out.length<=i:=by
 induction h with
 |nil=>exact Nat.le_refl _
 |skip _ _ ih=>omega
 |add _ _ _ ih=>simp;omega
theorem Grow.add{sh:Nat->Nat->Bool}{n i x k:Nat}{l:List Nat}(h:Grow sh n i l)(hx:x∈l)(hk:k<n)(hs:sh x k=true)(hn:k∉l):Grow sh n i (l++[k]):=by
 refine⟨by simp[h.mem],λy hy=>?_,?_,λP h0 hst y hy=>?_⟩
 ·rcases List.mem_append.1 hy with hy|hy
  ·exact h.lt y hy
  ·rw[List.mem_singleton.1 hy];exact hk
 ·rw[List.nodup_append]
  refine⟨h.nd,by simp,λa ha b hb=>?_⟩
  rw[List.mem_singleton.1 hb]
  exactλe=>hn (e▸ha)
 ·rcases List.mem_append.1 hy with hy|hy
  ·exact h.from_ P h0 hst y hy
  ·rw[List.mem_singleton.1 hy]
   exact hst x k (h.from_ P h0 hst x hx) hk hs
theorem castL_has(l:List Nat)(k:Nat):(castL l).contains (k:Int)=decide (k∈l):=by
 rw[Bool.eq_iff_iff,List.contains_iff_mem,decide_eq_true_eq]
 constructor
 ·intro h
  obtain⟨y,hy,hm⟩:=castL_mem h
  have:k=y:=by omega
  rw[this];exact hm
 ·intro h
  exact List.mem_map.2 ⟨k,h,rfl⟩
theorem castL_enc(l:List Nat):(castL l).map (Value.int .i64)=l.map encN:=by
 unfold castL
 rw[List.map_map]
 rfl
theorem und_intss:Tryz.prog.underlying 59=some (.slice 43):=by kernel_rfl
theorem info_ints:(Tryz.prog.info? 43).map (λi=>(i.zero,i.size,i.bytes))=some (some (.slice none 0 0),1,24):=by kernel_rfl
set_option maxHeartbeats 1000000 in
theorem partC(x:List Nat)(A:Option Addr)(c i I:Nat)(w:World)(hs:Sl 1 encI w w.heap.size A x.length c (castL x))(h:Blk w I 3 #[.int .i64 (i:Nat)]):
 Calls Tryz.prog 100 #[.slice A x.length c,.pointer (some ⟨I,0,none⟩)] w λe w'=>e=.returned (.bool (decide (i∈x)))/\Below w.heap.size w w':=by
 have H:=Lib.hid (containsEq (i:Int) A x.length c (castL x) w hs)
 rw[castL_has]at H
 have d0:=h.cell 0
 have d1:=h.lt
 clear hs h
 obtain⟨b,hb⟩:∃b,decide (i∈x)=b:=⟨_,rfl⟩
 rw[hb]at H ⊢
 clear hb
 go_enter Tryz.func100,Tryz.ntmps100
 go_wp2_with fail
 refine H.out.mono ?_
 rintro e w1⟨rfl,hb1⟩
 have HB:=Lib.hid hb1
 clear hb1
 go_wp2_with fail
 go_ret
 exact⟨rfl,HB.out⟩
set_option maxRecDepth 100000 in
set_option maxHeartbeats 16000000 in
theorem parts_be(p:BP)(T:Nat)(w:World)(h:Be p T w):
 Calls Tryz.prog 41 #[.pointer (some ⟨T,0,none⟩)] w λe w'=>∃A c out,e=.returned (.slice A (List.length out) c)/\Below w.heap.size w w'/\PartsTo (shareP p) p.ks.length p.ks.length out:=by
 have n10:=h.n10
 have hk:=h.kn
 have Hbe:=Lib.hid h
 have k1:=hk.c2
 have k2:=hk.lt
 have Hkn:=Lib.hid hk
 have HN:=Lib.hid n10
 obtain⟨sh,hsh⟩:∃s,shareP p=s:=⟨_,rfl⟩
 have Hsh:=Lib.hid (λx k W(hb:Below w.heap.size w W)(hx:x<p.ks.length)(hk:k<p.ks.length)=>by
  have h1:=share_be p T x k W (h.later hb) hx hk
  rw[hsh]at h1
  exact h1)
 rw[hsh]
 obtain⟨N,hNn⟩:∃x,p.ks.length=x:=⟨_,rfl⟩
 rw[hNn]at Hsh HN n10 k1 ⊢
 have HNk:=Lib.hid hNn
 clear h hk hsh hNn
 go_enter Tryz.func41,Tryz.ntmps41
 go_wp2_with fail
 refine lpn (λq a W=>a.defers=[]/\∃(i:Nat)(v:Value)(out:List (List Nat)),i+q=N/\PartsTo sh N i out/\Below w.heap.size w W/\LL W w.heap.size v out/\Fits (some (.pointer (some ⟨T,0,none⟩))::none::none::some (v)::none::none::none::none::none::none::none::none::some (.int .i64 (N:Nat))::some (.int .i64 (i:Nat))::none::none::none::none::none::none::none::none::none::none::none::none::none::none::none::none::none::none::none::none::none::none::none::none::none::none::none::none::none::none::none::none::none::none::none::none::none::none::none::none::none::none::none::none::none::none::none::[]) a.tmps.toList) N ?_ ?_
 ·refine⟨rfl,0,.slice none 0 0,[],by omega,.nil,brefl w,LL.nil _ _,?_⟩
  repeat (first|exact ftL|refine ftN ?_|refine ftS ?_)
 intro q a W hI K1 hK
 obtain⟨hds,i,v,out,hiq,hpt,hW,hLL,hfit⟩:=hI
 obtain⟨f',hf'⟩:=ftA hfit
 rw[hds]at hf'
 subst hf'
 clear hfit hds
 simp only[fillP,Nat.reduceAdd]
 have HW:=Lib.hid hW
 have HLL:=Lib.hid hLL
 have HPt:=Lib.hid hpt
 have HK:=Lib.hid (@hK)
 clear hW hLL hpt hK k1 k2
 by_cases hlt:i<N
 ·have i1:(i:Int)<(N:Int):=by omega
  have i3:IntKind.i64.wrap ((i:Int)+1)=((i+1:Nat):Int):=by rw[IntKind.wrap_i64];omega
  have Hiq:=Lib.hid (show i+q=N/\i<N from⟨hiq,hlt⟩)
  have HI:=Lib.hid (Blk.new W 3 #[.int .i64 (i:Nat)])
  have HWI:=Lib.hid (balloc (brefl W) (.cells #[.int .i64 (i:Nat)] 3))
  obtain⟨A3,c3,rfl,hSL⟩:=HLL.out.sl
  have HSL:=Lib.hid hSL
  clear hiq hSL
  go_wp2_with fail
  refine(containsLL 100 #[.pointer (some ⟨W.heap.size,0,none⟩)] (enters_of Tryz.func100 (by kernel_rfl) rfl) (λl=>decide (i∈l)) A3 out.length c3 out _ (HSL.out.later HWI.out) ?_).mono ?_
  ·intro x A' c' W' hx hb' hsl'
   exact partC x A' c' i W.heap.size W' hsl' (HI.out.later hb')
  rintro e w1⟨rfl,hb1⟩
  have HW1:=Lib.hid (Below.later HW.out (Below.later HWI.out hb1))
  have HL1:=Lib.hid (HLL.out.later (Below.later HWI.out hb1))
  have hI1:=HI.out.later hb1
  have d0:=hI1.cell 0
  have d1:=hI1.lt
  clear hb1 hI1 HI HWI HSL HW HLL
  obtain⟨b1,hb1⟩:∃b,out.any (λl=>decide (i∈l))=b:=⟨_,rfl⟩
  rw[hb1]
  have Hb1:=Lib.hid hb1
  clear hb1
  cases b1 with
  |true=>
   have hpt2:PartsTo sh N (i+1) out:=.skip HPt.out (by
    obtain⟨l,hl,hm⟩:=List.any_eq_true.1 Hb1.out
    exact⟨l,hl,of_decide_eq_true hm⟩)
   have HPt2:=Lib.hid hpt2
   clear hpt2
   go_wp2_with fail
   obtain⟨j1,j2⟩:=Hiq.out
   refine HK.out _ _ (q-1) (by omega) ⟨rfl,i+1,_,out,by omega,HPt2.out,HW1.out,HL1.out,?_⟩
   repeat (first|exact ftL|refine ftN ?_|refine ftS ?_)
  |false=>
   have hno:∀l∈out,i∉l:=λl hl hm=>by
    have h1:=Hb1.out
    rw[List.any_eq_false]at h1
    exact h1 l hl (decide_eq_true hm)
   have HNo:=Lib.hid hno
   clear hno
   obtain⟨i0,hi0,hz0,hz1,hz2⟩:=info_parts info_int
   have HB0:=Lib.hid (balloc (brefl w1) (.cells #[.int .i64 (i:Nat)] 3))
   have HO0:=Lib.hid (show(w1.alloc (.cells #[.int .i64 (i:Nat)] 3)).ownsRow w1.heap.size 3 1 (.slice (some ⟨w1.heap.size,0,none⟩) 1 1) [i].length ([i].map encN)from
    ⟨rfl,.inr ⟨w1.heap.size,1,#[.int .i64 (i:Nat)],rfl,Nat.le_refl _,Blk.new w1 _ _,Nat.le_refl _,by simp[maxLen],rfl,rfl⟩⟩)
   have HG0:=Lib.hid (show Grow sh N i [i]from⟨by simp,λx hx=>by rw[List.mem_singleton.1 hx];exact hlt,by simp,λP h0 _ x hx=>by rw[List.mem_singleton.1 hx];exact h0⟩)
   go_wp2_with fail
   clear d0 d1
   refine lpn (λr a W=>a.defers=[]/\∃(x:Nat)(l:List Nat)(v5:Value),x+r=N/\x<=l.length/\Grow sh N i l/\(∀j y,j<x->l[j]? =some y->∀k,k<N->sh y k=true->k∈l)/\Below w1.heap.size w1 W/\W.ownsRow w1.heap.size 3 1 v5 l.length (l.map encN)/\Fits (some (.pointer (some ⟨T,0,none⟩))::none::none::some (.slice A3 out.length c3)::none::some (v5)::some (.int .i64 (x:Nat))::none::none::none::none::none::some (.int .i64 (N:Nat))::some (.int .i64 (i:Nat))::none::none::none::none::none::none::none::none::none::none::none::none::none::none::none::none::none::none::none::none::none::none::none::none::none::none::none::none::none::none::none::none::none::none::none::none::none::none::none::none::none::none::none::none::none::none::none::[]) a.tmps.toList) N ?_ ?_
   ·refine⟨rfl,0,[i],_,by omega,by simp,HG0.out,λj y hj=>by omega,HB0.out,HO0.out,?_⟩
    repeat (first|exact ftL|refine ftN ?_|refine ftS ?_)
   clear HB0 HO0 HG0
   intro r a2 W2 hI2 K2 hK2
   obtain⟨hds,x,l,v5,hxr,hxl,hG,hcl,hW2,hown,hfit⟩:=hI2
   obtain⟨f',hf'⟩:=ftA hfit
   rw[hds]at hf'
   subst hf'
   clear hfit hds
   simp only[fillP,Nat.reduceAdd]
   have HW2:=Lib.hid hW2
   have HOwn:=Lib.hid hown
   have HK2:=Lib.hid (@hK2)
   have HG:=Lib.hid hG
   have Hcl:=Lib.hid hcl
   have hln:=nodup_len N l hG.nd hG.lt
   obtain⟨A5,c5,rfl,_⟩:=own_slI (ts:=castL l) (by rw[castL_enc];exact hown) (castL_len l)
   clear hW2 hown hK2 hG hcl
   have HB2:=Lib.hid (Below.later HW1.out HW2.out)
   by_cases hxlt:x<l.length
   ·have Hx:=Lib.hid (show x+r=N/\x<l.length/\l.length<=N from⟨hxr,hxlt,hln⟩)
    have hk2:=Hkn.out.later HB2.out
    have k1:=hk2.c2
    have k2:=hk2.lt
    rw[HNk.out]at k1
    have x1:(x:Int)<(l.length:Int):=by omega
    have x2:(0:Int)<=(x:Int):=by omega
    have x3:IntKind.i64.wrap ((x:Int)+1)=((x+1:Nat):Int):=by rw[IntKind.wrap_i64];omega
    obtain⟨ll,hll⟩:∃y,l.length=y:=⟨_,rfl⟩
    have Hxr:=Lib.hid (show x+r=N/\x<N by omega)
    have HOw2:=Lib.hid (show W2.ownsRow w1.heap.size 3 1 (.slice A5 ll c5) l.length (l.map encN)from by rw[<-hll];exact HOwn.out)
    clear hxr hxl hk2
    rw[hll]at x1 ⊢
    clear hll hln hxlt
    go_wp2_with fail
    clear k1 k2
    refine lpn (λs a W=>a.defers=[]/\∃(k:Nat)(l:List Nat)(v5:Value),k+s=N/\x<l.length/\Grow sh N i l/\(∀j y,j<x->l[j]? =some y->∀k,k<N->sh y k=true->k∈l)/\(∀y,l[x]? =some y->∀k',k'<k->sh y k'=true->k'∈l)/\Below w1.heap.size w1 W/\W.ownsRow w1.heap.size 3 1 v5 l.length (l.map encN)/\Fits (some (.pointer (some ⟨T,0,none⟩))::none::none::some (.slice A3 out.length c3)::none::some (v5)::some (.int .i64 (x:Nat))::none::none::none::none::none::some (.int .i64 (N:Nat))::some (.int .i64 (i:Nat))::none::none::none::none::none::none::none::none::none::none::none::none::none::none::none::none::none::some (.int .i64 (N:Nat))::some (.int .i64 (k:Nat))::none::none::none::none::none::none::none::none::none::none::none::none::none::none::none::none::none::none::none::none::none::none::none::none::none::none::none::none::[]) a.tmps.toList) N ?_ ?_
    ·refine⟨rfl,0,l,.slice A5 ll c5,by omega,Hx.out.2.1,HG.out,Hcl.out,λy _ k' hk'=>by omega,HW2.out,HOw2.out,?_⟩
     repeat (first|exact ftL|refine ftN ?_|refine ftS ?_)
    clear HW2 HOwn HOw2 HG Hcl HB2 Hx x1
    intro s a3 W2 hI3 K3 hK3
    obtain⟨hds,k,l,v5,hks,hxl,hG,hcl,hcx,hW2,hown,hfit⟩:=hI3
    obtain⟨f',hf'⟩:=ftA hfit
    rw[hds]at hf'
    subst hf'
    clear hfit hds
    simp only[fillP,Nat.reduceAdd]
    have HW2:=Lib.hid hW2
    have HOwn:=Lib.hid hown
    have HK3:=Lib.hid (@hK3)
    have HG:=Lib.hid hG
    have Hcl:=Lib.hid hcl
    have Hcx:=Lib.hid hcx
    have hln:=nodup_len N l hG.nd hG.lt
    obtain⟨A5,c5,rfl,hsl5⟩:=own_slI (ts:=castL l) (by rw[castL_enc];exact hown) (castL_len l)
    clear hW2 hown hK3 hG hcl hcx
    have HB2:=Lib.hid (Below.later HW1.out HW2.out)
    have HS5:=Lib.hid hsl5
    by_cases hkN:k<N
    ·have k1:(k:Int)<(N:Int):=by omega
     have k3:IntKind.i64.wrap ((k:Int)+1)=((k+1:Nat):Int):=by rw[IntKind.wrap_i64];omega
     have Hk:=Lib.hid (show k+s=N/\k<N/\x<l.length/\l.length<=N from⟨hks,hkN,hxl,hln⟩)
     have Hct:=Lib.hid (containsEq (k:Int) A5 l.length c5 (castL l) W2 HS5.out)
     rw[castL_has]at Hct
     obtain⟨b2,hb2⟩:∃b,decide (k∈l)=b:=⟨_,rfl⟩
     rw[hb2]at Hct
     have Hb2:=Lib.hid hb2
     clear hb2 hks hln hsl5
     go_wp2_with fail
     refine Hct.out.mono ?_
     rintro e w3⟨rfl,hb3⟩
     have HW3:=Lib.hid (Below.later HW2.out hb3)
     have HO3:=Lib.hid (owL HOwn.out hb3)
     have HS3:=Lib.hid (HS5.out.later hb3)
     have HB3:=Lib.hid (Below.later HB2.out hb3)
     clear hb3 HW2 HOwn HS5 HB2 Hct
     cases b2 with
     |true=>
      have hin:k∈l:=of_decide_eq_true Hb2.out
      have hcx2:∀y,l[x]? =some y->∀k',k'<k+1->sh y k'=true->k'∈l:=λy hy k' hk' hs=>by
       by_cases e:k'=k
       ·rw[e];exact hin
       ·exact Hcx.out y hy k' (by omega) hs
      have Hcx2:=Lib.hid hcx2
      clear hin hcx2
      go_wp2_with fail
      obtain⟨j1,j2,j3,j4⟩:=Hk.out
      refine HK3.out _ _ (s-1) (by omega) ⟨rfl,k+1,l,_,by omega,j3,HG.out,Hcl.out,Hcx2.out,HW3.out,HO3.out,?_⟩
      repeat (first|exact ftL|refine ftN ?_|refine ftS ?_)
     |false=>
      have hnin:k∉l:=of_decide_eq_false Hb2.out
      obtain⟨y,hy⟩:∃y,l[x]? =some y:=⟨_,List.getElem?_eq_getElem hxl⟩
      have hyl:=HG.out.lt y (List.mem_of_getElem? hy)
      have hyc:(castL l)[x]? =some (y:Int):=by unfold castL;rw[List.getElem?_map,hy];rfl
      obtain⟨b',o',z,hA5,hbb,hz,z0⟩:=HS3.out.ltI hxl
      rw[hyc]at hz
      cases hz
      have HShare:=Lib.hid (Hsh.out y k w3 HB3.out hyl hkN)
      obtain⟨b4,hb4⟩:∃b,sh y k=b:=⟨_,rfl⟩
      rw[hb4]at HShare
      have Hb4:=Lib.hid hb4
      have Hnin:=Lib.hid hnin
      have Hy:=Lib.hid hy
      have x1:(x:Int)<(l.length:Int):=by omega
      have x2':(0:Int)<=(x:Int):=by omega
      rw[hA5]
      have HA5:=Lib.hid hA5
      clear hnin hy hyl hyc hb4 hA5
      go_wp2_with fail
      refine HShare.out.mono ?_
      rintro e w4⟨rfl,hb4'⟩
      have HW4:=Lib.hid (Below.later HW3.out hb4')
      have HO4:=Lib.hid (owL HO3.out hb4')
      clear hb4' HW3 HO3 HS3 HB3 HShare hbb z0
      cases b4 with
      |false=>
       have hcx2:∀y,l[x]? =some y->∀k',k'<k+1->sh y k'=true->k'∈l:=λy' hy' k' hk' hs=>by
        by_cases e:k'=k
        ·rw[Hy.out]at hy'
         cases hy'
         rw[e,Hb4.out]at hs
         cases hs
        ·exact Hcx.out y' hy' k' (by omega) hs
       have Hcx2:=Lib.hid hcx2
       clear hcx2
       go_wp2_with fail
       obtain⟨j1,j2,j3,j4⟩:=Hk.out
       refine HK3.out _ _ (s-1) (by omega) ⟨rfl,k+1,l,_,by omega,j3,HG.out,Hcl.out,Hcx2.out,HW4.out,by rw[HA5.out]at HO4;exact HO4.out,?_⟩
       repeat (first|exact ftL|refine ftN ?_|refine ftS ?_)
      |true=>
       have hcx2:∀y,(l++[k])[x]? =some y->∀k',k'<k+1->sh y k'=true->k'∈l++[k]:=λy' hy' k' hk' hs=>by
        rw[List.getElem?_append_left hxl]at hy'
        by_cases e:k'=k
        ·rw[e];simp
        ·exact List.mem_append_left _ (Hcx.out y' hy' k' (by omega) hs)
       have hcl2:∀j y,j<x->(l++[k])[j]? =some y->∀k',k'<N->sh y k'=true->k'∈l++[k]:=λj y' hj hy' k' hk' hs=>by
        rw[List.getElem?_append_left (by omega)]at hy'
        exact List.mem_append_left _ (Hcl.out j y' hj hy' k' hk' hs)
       have Hcx2:=Lib.hid hcx2
       have Hcl2:=Lib.hid hcl2
       have HG2:=Lib.hid (HG.out.add (List.mem_of_getElem? Hy.out) hkN Hb4.out Hnin.out)
       have HO5:=Lib.hid (owL HO4.out (balloc (brefl w4) (.cells #[.int .i64 (k:Int)] 3)))
       rw[HA5.out]at HO5
       have HBB:=Lib.hid (show w1.heap.size<=w4.heap.size from HW4.out.size)
       clear hcx2 hcl2 HO4
       go_wp2_with (at_builtin;refine wpList_append_own _ rfl _ _ 43 rfl w1.heap.size 3 i0 (.int .i64 0) 1 8 und_ints hi0 hz0 hz1 hz2 rfl (by decide) (.slice (some ⟨b',o',none⟩) l.length c5) l.length _ rfl HO5.out ⟨w4.heap.size,0,none⟩ 1 1 [.int .i64 (k:Int)] rfl rfl (one_new _ _ _) (by simp[Value.oneCell']) (by have:=Hk.out;simp only[maxLen];omega) (by have:=Hk.out;omega) (by have:=HBB.out;simp;omega) ?_;intro v' W5 hown' hgr _;have HO6:=Lib.hid hown';have HW6:=Lib.hid (below_row (Below.later HW4.out (balloc (brefl w4) _)) hgr (λg hg=>own_base HO5.out g hg) (by have:=HBB.out;simp;omega));clear hown' hgr)
       obtain⟨j1,j2,j3,j4⟩:=Hk.out
       refine HK3.out _ _ (s-1) (by omega) ⟨rfl,k+1,l++[k],v',by omega,by simp;omega,HG2.out,Hcl2.out,Hcx2.out,HW6.out,?_,?_⟩
       ·have h8:=HO6.out
        rw[List.length_append,List.map_append]
        simpa[encN]using h8
       ·repeat (first|exact ftL|refine ftN ?_|refine ftS ?_)
    ·have hkk:k=N:=by omega
     subst hkk
     clear hks hkN hsl5
     have hcl2:∀j y,j<x+1->l[j]? =some y->∀k',k'<k->sh y k'=true->k'∈l:=λj y hj hy k' hk' hs=>by
      by_cases e:j=x
      ·rw[e]at hy
       exact Hcx.out y hy k' hk' hs
      ·exact Hcl.out j y (by omega) hy k' hk' hs
     have Hcl2:=Lib.hid hcl2
     have Hxl:=Lib.hid (show x<l.length/\l.length<=k from⟨hxl,hln⟩)
     clear hcl2 hln
     go_wp2_with fail
     obtain⟨j1,j2⟩:=Hxl.out
     obtain⟨j3,j4⟩:=Hxr.out
     refine HK2.out _ _ (r-1) (by omega) ⟨rfl,x+1,l,_,by omega,by omega,HG.out,Hcl2.out,HW2.out,HOwn.out,?_⟩
     repeat (first|exact ftL|refine ftN ?_|refine ftS ?_)
   ·have hxe:x=l.length:=by omega
    have hcl:=Hcl.out
    rw[hxe]at hcl
    have hpart:PartOf sh N i l:=⟨HG.out.mem,HG.out.lt,HG.out.from_,λy hy k hk hs=>by
     obtain⟨j,hj,hjy⟩:=List.getElem_of_mem hy
     exact hcl j y hj (by rw[List.getElem?_eq_getElem hj,hjy]) k hk hs⟩
    have hl0:∃m,l.length=m+1:=⟨l.length-1,by have:=List.length_pos_of_mem HG.out.mem;omega⟩
    obtain⟨m,hm⟩:=hl0
    have hown:=HOwn.out
    rw[hm]at hown hln hxlt ⊢
    obtain⟨g,cap,hgc⟩:=own_succ hown
    simp only[Value.slice.injEq,true_and]at hgc
    obtain⟨rfl,rfl⟩:=hgc
    have HBs:=Lib.hid HW2.out.size
    have HSo:=Lib.hid (Ps.sort_ok w1.heap.size g (m+1) c5 l W2 hown (by omega) HBs.out)
    have Hpart:=Lib.hid hpart
    have Hm:=Lib.hid (show l.length=m+1/\m+1<=N from⟨hm,hln⟩)
    clear hxe hcl hpart hm hown hln hxr hxl HOwn
    go_wp2_with fail
    refine HSo.out.mono ?_
    rintro e w5⟨rfl,hb5,ys,hperm,hown5⟩
    have HW5:=Lib.hid (HW2.out.trans hb5)
    have hrow:=RowI.of_own hown5 (by rw[hperm.length_eq];exact Hm.out.1)
    have hyl:ys.length=m+1:=by rw[hperm.length_eq];exact Hm.out.1
    have hpart5:PartOf sh N i ys:=⟨hperm.mem_iff.2 Hpart.out.mem,λx hx=>Hpart.out.lt x (hperm.mem_iff.1 hx),λP h0 hst x hx=>Hpart.out.from_ P h0 hst x (hperm.mem_iff.1 hx),λx hx k hk hs=>hperm.mem_iff.2 (Hpart.out.closed x (hperm.mem_iff.1 hx) k hk hs)⟩
    have HPt5:=Lib.hid (PartsTo.add HPt.out HNo.out hpart5)
    have HL5:=Lib.hid (HL1.out.later HW5.out)
    have HR5:=Lib.hid (hrow.later (balloc (brefl w5) (.cells #[.slice (some ⟨g,0,none⟩) (m+1) c5] 43)))
    have HL6:=Lib.hid (HL5.out.later (balloc (brefl w5) (.cells #[.slice (some ⟨g,0,none⟩) (m+1) c5] 43)))
    have HB6:=Lib.hid (Below.later HW1.out (Below.later HW5.out (balloc (brefl w5) (.cells #[.slice (some ⟨g,0,none⟩) (m+1) c5] 43))))
    obtain⟨vs,hv1,hv2⟩:=HL6.out.own
    have Hv1:=Lib.hid hv1
    have Hv2:=Lib.hid hv2
    have hol:=HPt.out.len
    have Hol:=Lib.hid (show out.length<=10 by have:=Hiq.out;have:=HN.out;omega)
    obtain⟨i1',hi1',hy0,hy1,hy2⟩:=info_parts info_ints
    have HBw:=Lib.hid HB6.out.size
    clear hb5 hperm hown5 hrow hyl hpart5 hv1 hv2 hol HW2 HB2 HSo HL5
    go_wp2_with (at_builtin;refine wpList_append_own _ rfl _ _ 59 rfl w.heap.size 43 i1' (.slice none 0 0) 1 24 und_intss hi1' hy0 hy1 hy2 rfl (by decide) (.slice A3 out.length c3) out.length vs rfl Hv1.out ⟨w5.heap.size,0,none⟩ 1 1 [.slice (some ⟨g,0,none⟩) (m+1) c5] rfl rfl (one_new _ _ _) (by simp[Value.oneCell']) (by have:=Hol.out;simp only[maxLen];omega) (by have:=Hol.out;omega) (by have:=HBw.out;simpa using this) ?_;intro v' W6 hown' hgr _;have HLL6:=Lib.hid (LL.app Hv1.out Hv2.out HR5.out hgr hown');have HW6:=Lib.hid (below_row HB6.out hgr (λg hg=>own_base Hv1.out g hg) HBw.out);clear hown' hgr)
    obtain⟨j1,j2⟩:=Hiq.out
    refine HK.out _ _ (q-1) (by omega) ⟨rfl,i+1,v',out++[ys],by omega,HPt5.out,HW6.out,HLL6.out,?_⟩
    repeat (first|exact ftL|refine ftN ?_|refine ftS ?_)
 ·have hie:i=N:=by omega
  subst hie
  obtain⟨A3,c3,rfl,_⟩:=HLL.out.sl
  clear hiq hlt HK
  go_wp2_with fail
  go_ret
  exact⟨A3,c3,out,rfl,HW.out,HPt.out⟩
end Go.Proofs.YtifehdoghfnhoaaGreatDoor.Pa
namespace Go.Proofs.YtifehdoghfnhoaaGreatDoor.Pa
open Go.RowKit Go.Shelf Go.Proofs.YtifehdoghfnhoaaGreatDoor.C
set_option maxRecDepth 100000 in
set_option maxHeartbeats 1000000 in
theorem Parts_ok(RA:Option Addr)(rn rc most cn:Nat)(rows:List ByteArray)(w:World)(hs:Sl 1 encB8 w w.heap.size RA rn rc rows)(hok:ShOk rn cn most rows)(h10:(knN (atB rows 111) cn rn 0).length<=10)(h35:∀a c,atB rows 35 a c=false):
 Calls Tryz.prog 22 #[.agg #[.slice RA rn rc,.int .i64 (most:Nat)]] w λe w'=>∃A c out,e=.returned (.tuple #[.slice A (List.length out) c,.int .i64 0])/\Below w.heap.size w w'/\PartsTo (shareQ rn cn most (knN (atB rows 111) cn rn 0)) (knN (atB rows 111) cn rn 0).length (knN (atB rows 111) cn rn 0).length out:=by
 have Ho:=Lib.hid (λW(hb:Below w.heap.size w W)=>open_be RA rn rc most cn rows W (hs.later (w':=W) hb) hok h10)
 have Hm:=Lib.hid (λT p W(hbe:Be p T W)(hof:BeOf p rn cn most rows)=>by
  have hcl:=hof.clear h35 hok.m1
  have h1:=parts_be p T W hbe
  rw[shareP_clear hcl.nz,hof.hrn,hof.hcn,hof.hmost,hof.hks]at h1
  exact h1)
 clear hs hok h10 h35
 obtain⟨ks,hks⟩:∃ks,knN (atB rows 111) cn rn 0=ks:=⟨_,rfl⟩
 rw[hks]at Hm ⊢
 clear hks
 go_enter Tryz.func22,Tryz.ntmps22
 go_wp2_with fail
 refine(Ho.out _ (balloc (brefl w) _)).mono ?_
 rintro e w1⟨T,p,rfl,hb1,hbe,hof⟩
 have HB:=Lib.hid (Below.later (balloc (brefl w) _) hb1)
 have Hme:=Lib.hid (Hm.out T p w1 hbe hof)
 clear hb1 hbe hof Hm
 go_wp2_with fail
 refine Hme.out.mono ?_
 rintro e w2⟨A,c,out,rfl,hb2,hpt⟩
 have HB2:=Lib.hid (Below.later HB.out hb2)
 have HPt:=Lib.hid hpt
 clear hb2 hpt
 go_wp2
 go_ret2
 exact⟨A,c,out,rfl,HB2.out,HPt.out⟩
end Go.Proofs.YtifehdoghfnhoaaGreatDoor.Pa
