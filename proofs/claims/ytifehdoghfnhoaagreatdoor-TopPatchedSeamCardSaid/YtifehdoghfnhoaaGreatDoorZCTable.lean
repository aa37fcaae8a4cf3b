/- The table of a ribbon: how it lies in memory; where a sheet ends, whether it can be cut. -/
import Derived.Test.YtifehdoghfnhoaaGreatDoorZApp
namespace Go.Proofs.YtifehdoghfnhoaaGreatDoor.C
open Go.RowKit Go.Shelf
set_option maxHeartbeats 400000 in
theorem indexI(g:Nat)(lb:Array Value)(eg:∀args w,(callFunc g args).run Tryz.prog w=.ok (.enter g args) w)(p:Int->Bool)(A:Option Addr)(n c:Nat)(xs:List Int)(w:World)
 (hs:Sl 1 encI w w.heap.size A n c xs)
 (hp:∀x W,x∈xs->Below w.heap.size w W->Calls Tryz.prog g (#[.int .i64 x]++lb) W λe W'=>e=.returned (.bool (p x))/\Below W.heap.size W W'):
 Calls Tryz.prog 127 #[.slice A n c,.func (.func g) #[] lb] w λe w'=>e=.returned (.int .i64 (idxB p xs 0))/\Below w.heap.size w w':=by
 have hl:=hs.len
 have hcap:=hs.cap
 have hbig:=hs.big
 have Hp:=Lib.hid hp
 clear hp
 go_enter Tryz.func127,Tryz.ntmps127
 go_wp2
 go_loopw [8] (λi wr=>∃k:Nat,k<=n/\i=.int .i64 k/\(∀j x,j<k->xs[j]? =some x->p x=false)/\Below w.heap.size w wr) (λi _=>n-(intOf i).toNat)
 case atStart=>exact⟨0,by omega,rfl,by omega,Below.refl _ _⟩
 case round=>
  obtain⟨k,hk,rfl,hno,hb⟩:=hrel
  by_cases hlt:k<n
  ·obtain⟨b,o,x,rfl,hB,hx,hc0⟩:=(hs.below hb).ltI hlt
   have Hno:=Lib.hid hno
   have Hx:=Lib.hid hx
   have Hb:=Lib.hid hb
   clear hno hx hb
   go_wp2_with (go_at_fn g;refine(Hp.out x _ (List.mem_of_getElem? Hx.out) Hb.out).mono ?_;rintro e w1 ⟨rfl,hb1⟩)
   ·have hpx:p x=true:=by assumption
    go_ret
    exact⟨ret_int (idxB_at Hno.out Hx.out hpx).symm,Below.later Hb.out hb1⟩
   ·have hpx:p x=false:=by assumption
    go_roundw
    case rel=>exact⟨k+1,by omega,by go_num,no_succ Hno.out Hx.out hpx,Below.later Hb.out hb1⟩
    case measure=>simp[intOf];omega
  ·obtain rfl:k=n:=by omega
   have Hno:=Lib.hid hno
   have Hb:=Lib.hid hb
   clear hno hb
   go_wp2
   go_ret
   exact⟨ret_int (idxB_no (by rw[hl];exact Hno.out)).symm,Hb.out⟩
set_option maxHeartbeats 400000 in
theorem containsI(g:Nat)(lb:Array Value)(eg:∀args w,(callFunc g args).run Tryz.prog w=.ok (.enter g args) w)(p:Int->Bool)(A:Option Addr)(n c:Nat)(xs:List Int)(w:World)
 (hs:Sl 1 encI w w.heap.size A n c xs)
 (hp:∀x W,x∈xs->Below w.heap.size w W->Calls Tryz.prog g (#[.int .i64 x]++lb) W λe W'=>e=.returned (.bool (p x))/\Below W.heap.size W W'):
 Calls Tryz.prog 53 #[.slice A n c,.func (.func g) #[] lb] w λe w'=>e=.returned (.bool (xs.any p))/\Below w.heap.size w w':=by
 have H:=Lib.hid (indexI g lb eg p A n c xs w hs hp)
 clear hs hp
 go_enter Tryz.func53,Tryz.ntmps53
 go_wp2_with (go_at_call 127;refine H.out.mono ?_;rintro e w1 ⟨rfl,hb1⟩)
 go_ret
 exact⟨rtB (idxB_ge p xs 0),hb1⟩
theorem idxB_has(x:Int)(xs:List Int):decide (0<=idxB (λy=>x==y) xs 0)=xs.contains x:=by
 rw[idxB_ge]
 induction xs with
 |nil=>rfl
 |cons y l ih=>simp only[List.any_cons,ih,List.contains_cons]
set_option maxHeartbeats 400000 in
theorem indexEq(x:Int)(A:Option Addr)(n c:Nat)(xs:List Int)(w:World)(hs:Sl 1 encI w w.heap.size A n c xs):
 Calls Tryz.prog 201 #[.slice A n c,.int .i64 x] w λe w'=>e=.returned (.int .i64 (idxB (λy=>x==y) xs 0))/\Below w.heap.size w w':=by
 have hl:=hs.len
 have hcap:=hs.cap
 have hbig:=hs.big
 go_enter Tryz.func201,Tryz.ntmps201
 go_wp2
 go_loopw [8] (λi wr=>∃k:Nat,k<=n/\i=.int .i64 k/\(∀j y,j<k->xs[j]? =some y->(x==y)=false)/\Below w.heap.size w wr) (λi _=>n-(intOf i).toNat)
 case atStart=>exact⟨0,by omega,rfl,by omega,Below.refl _ _⟩
 case round=>
  obtain⟨k,hk,rfl,hno,hb⟩:=hrel
  by_cases hlt:k<n
  ·obtain⟨b,o,y,rfl,hB,hx,hc0⟩:=(hs.below hb).ltI hlt
   have Hno:=Lib.hid hno
   have Hx:=Lib.hid hx
   have Hb:=Lib.hid hb
   clear hno hx hb
   cases hxy:(x==y)with
   |true=>
    have Hxy:=Lib.hid hxy
    go_wp2
    go_ret
    exact⟨ret_int (idxB_at (p:=λy=>x==y) Hno.out Hx.out Hxy.out).symm,Hb.out⟩
   |false=>
    have Hxy:=Lib.hid hxy
    go_wp2
    go_roundw
    case rel=>exact⟨k+1,by omega,by go_num,no_succ (p:=λy=>x==y) Hno.out Hx.out Hxy.out,Hb.out⟩
    case measure=>simp[intOf];omega
  ·obtain rfl:k=n:=by omega
   have Hno:=Lib.hid hno
   have Hb:=Lib.hid hb
   clear hno hb
   go_wp2
   go_ret
   exact⟨ret_int (idxB_no (p:=λy=>x==y) (by rw[hl];exact Hno.out)).symm,Hb.out⟩
set_option maxHeartbeats 400000 in
theorem containsEq(x:Int)(A:Option Addr)(n c:Nat)(xs:List Int)(w:World)(hs:Sl 1 encI w w.heap.size A n c xs):
 Calls Tryz.prog 101 #[.slice A n c,.int .i64 x] w λe w'=>e=.returned (.bool (xs.contains x))/\Below w.heap.size w w':=by
 have H:=Lib.hid (indexEq x A n c xs w hs)
 clear hs
 go_enter Tryz.func101,Tryz.ntmps101
 go_wp2_with (go_at_call 201;refine H.out.mono ?_;rintro e w1 ⟨rfl,hb1⟩)
 go_ret
 exact⟨rtB (idxB_has x xs),hb1⟩
end Go.Proofs.YtifehdoghfnhoaaGreatDoor.C
namespace Go.Proofs.YtifehdoghfnhoaaGreatDoor.C
open Go.RowKit Go.Shelf
def outB(lo hi x:Int):Bool:=decide (x<lo)||decide (hi<x)
@[irreducible] def outR (lo hi x:Int):Bool:=outB lo hi x
theorem outR_eq(lo hi x:Int):outR lo hi x=outB lo hi x:=by unfold outR;rfl
@[irreducible] def inR (lo hi x:Int):Bool:=decide (lo<=x)&&decide (x<=hi)
theorem inR_iff(lo hi x:Int):inR lo hi x=true↔lo<=x/\x<=hi:=by unfold inR;simp
theorem inR_no(lo hi x:Int):inR lo hi x=false↔x<lo\/hi<x:=by
 rw[Bool.eq_false_iff,ne_eq,inR_iff];omega
theorem inR_any(lo hi x:Int):(!([x].any (outR lo hi)))=inR lo hi x:=by
 rw[Bool.eq_iff_iff,inR_iff];simp[outR_eq,outB]
theorem Sl.one{w:World}{B b:Nat}{x:Int}(hb:b<B)(h:w.cell? ⟨b,0,none⟩=some (.int .i64 x)):Sl 1 encI w B (some ⟨b,0,none⟩) 1 1 [x]:=
 ⟨rfl,by omega,by omega,λ_=>⟨b,0,rfl,hb,λi y hy j u hu=>by
   match i,hy with
   |0,rfl=>match j,hu with
    |0,rfl=>simpa using h⟩⟩
@[irreducible] def badK (x:Kd):Bool:=!inR 1 24 x.w||decide (x.p<1)||decide (1000<x.p)||!inR 0 24 x.m
end Go.Proofs.YtifehdoghfnhoaaGreatDoor.C
namespace Go.Proofs.YtifehdoghfnhoaaGreatDoor.C
open Go.RowKit Go.Shelf
@[irreducible] def canB (L:Nat) (F:Nat->Int) (x:Kd) (fr:Nat):Bool:=decide (fr+x.w<=L)&&decide (F (fr+x.w.toNat)-F fr<=x.m)
end Go.Proofs.YtifehdoghfnhoaaGreatDoor.C
