/- The table of a ribbon: how it lies in memory; where a sheet ends, whether it can be cut. -/
import Derived.Test.YtpbcmkebdcejkaaGreatDoorZDagA
namespace Go.Proofs.YtpbcmkebdcejkaaGreatDoor.C
open Go.RowKit Go.Shelf
set_option maxHeartbeats 400000 in
theorem indexI(g:Nat)(lb:Array Value)(eg:∀args w,(callFunc g args).run Tryz.prog w=.ok (.enter g args) w)(p:Int->Bool)(A:Option Addr)(n c:Nat)(xs:List Int)(w:World)
 (hs:Sl 1 encI w w.heap.size A n c xs)
 (hp:∀x W,x∈xs->Below w.heap.size w W->Calls Tryz.prog g (#[.int .i64 x]++lb) W λe W'=>e=.returned (.bool (p x))/\Below W.heap.size W W'):
 Calls Tryz.prog 202 #[.slice A n c,.func (.func g) #[] lb] w λe w'=>e=.returned (.int .i64 (idxB p xs 0))/\Below w.heap.size w w':=by
 have hl:=hs.len
 have hcap:=hs.cap
 have hbig:=hs.big
 have Hp:=Lib.hid hp
 clear hp
 go_enter Tryz.func202,Tryz.ntmps202
 go_wp2
 go_loopw [8] (λi wr=>∃k:Nat,k<=n/\i=.int .i64 k/\(∀j x,j<k->xs[j]? =some x->p x=false)/\Below w.heap.size w wr) (λi _=>n-(intOf i).toNat)
 case atStart=>exact⟨0,by omega,rfl,by omega,Below.refl _ _⟩
 case round=>
  obtain⟨k,hk,rfl,hno,hb⟩:=hrel
  by_cases hlt:k<n
  ·obtain⟨b,o,x,rfl,hB,hx,hc0⟩:=(hs.below hb).ltI hlt
   have Hno:=Lib.hid hno
   have Hx:=Lib.hid hx
   have Hb:=Lib.hid hb
   clear hno hx hb
   go_wp2_with (go_at_fn g;refine(Hp.out x _ (List.mem_of_getElem? Hx.out) Hb.out).mono ?_;rintro e w1 ⟨rfl,hb1⟩)
   ·have hpx:p x=true:=by assumption
    go_ret
    exact⟨ret_int (idxB_at Hno.out Hx.out hpx).symm,Below.later Hb.out hb1⟩
   ·have hpx:p x=false:=by assumption
    go_roundw
    case rel=>exact⟨k+1,by omega,by go_num,no_succ Hno.out Hx.out hpx,Below.later Hb.out hb1⟩
    case measure=>simp[intOf];omega
  ·obtain rfl:k=n:=by omega
   have Hno:=Lib.hid hno
   have Hb:=Lib.hid hb
   clear hno hb
   go_wp2
   go_ret
   exact⟨ret_int (idxB_no (by rw[hl];exact Hno.out)).symm,Hb.out⟩
set_option maxHeartbeats 400000 in
theorem containsI(g:Nat)(lb:Array Value)(eg:∀args w,(callFunc g args).run Tryz.prog w=.ok (.enter g args) w)(p:Int->Bool)(A:Option Addr)(n c:Nat)(xs:List Int)(w:World)
 (hs:Sl 1 encI w w.heap.size A n c xs)
 (hp:∀x W,x∈xs->Below w.heap.size w W->Calls Tryz.prog g (#[.int .i64 x]++lb) W λe W'=>e=.returned (.bool (p x))/\Below W.heap.size W W'):
 Calls Tryz.prog 111 #[.slice A n c,.func (.func g) #[] lb] w λe w'=>e=.returned (.bool (xs.any p))/\Below w.heap.size w w':=by
 have H:=Lib.hid (indexI g lb eg p A n c xs w hs hp)
 clear hs hp
 go_enter Tryz.func111,Tryz.ntmps111
 go_wp2_with (go_at_call 202;refine H.out.mono ?_;rintro e w1 ⟨rfl,hb1⟩)
 go_ret
 exact⟨ret_bool (idxB_ge p xs 0),hb1⟩
set_option maxHeartbeats 400000 in
theorem indexK(g:Nat)(lb:Array Value)(eg:∀args w,(callFunc g args).run Tryz.prog w=.ok (.enter g args) w)(p:Kd->Bool)(A:Option Addr)(n c:Nat)(xs:List Kd)(w:World)
 (hs:Sl 3 encK w w.heap.size A n c xs)
 (hp:∀x W,x∈xs->Below w.heap.size w W->Calls Tryz.prog g (#[.agg #[.int .i64 x.w,.int .i64 x.p,.int .i64 x.m]]++lb) W λe W'=>e=.returned (.bool (p x))/\Below W.heap.size W W'):
 Calls Tryz.prog 209 #[.slice A n c,.func (.func g) #[] lb] w λe w'=>e=.returned (.int .i64 (idxB p xs 0))/\Below w.heap.size w w':=by
 have hl:=hs.len
 have hcap:=hs.cap
 have hbig:=hs.big
 have Hp:=Lib.hid hp
 clear hp
 go_enter Tryz.func209,Tryz.ntmps209
 go_wp2
 go_loopw [8] (λi wr=>∃k:Nat,k<=n/\i=.int .i64 k/\(∀j x,j<k->xs[j]? =some x->p x=false)/\Below w.heap.size w wr) (λi _=>n-(intOf i).toNat)
 case atStart=>exact⟨0,by omega,rfl,by omega,Below.refl _ _⟩
 case round=>
  obtain⟨k,hk,rfl,hno,hb⟩:=hrel
  by_cases hlt:k<n
  ·obtain⟨b,o,x,rfl,hB,hx,hc0,hc1,hc2⟩:=(hs.below hb).ltK hlt
   have Hno:=Lib.hid hno
   have Hx:=Lib.hid hx
   have Hb:=Lib.hid hb
   clear hno hx hb
   go_wp2_with (go_at_fn g;refine(Hp.out x _ (List.mem_of_getElem? Hx.out) Hb.out).mono ?_;rintro e w1 ⟨rfl,hb1⟩)
   ·have hpx:p x=true:=by assumption
    go_ret
    exact⟨ret_int (idxB_at Hno.out Hx.out hpx).symm,Below.later Hb.out hb1⟩
   ·have hpx:p x=false:=by assumption
    go_roundw
    case rel=>exact⟨k+1,by omega,by go_num,no_succ Hno.out Hx.out hpx,Below.later Hb.out hb1⟩
    case measure=>simp[intOf];omega
  ·obtain rfl:k=n:=by omega
   have Hno:=Lib.hid hno
   have Hb:=Lib.hid hb
   clear hno hb
   go_wp2
   go_ret
   exact⟨ret_int (idxB_no (by rw[hl];exact Hno.out)).symm,Hb.out⟩
set_option maxHeartbeats 400000 in
theorem containsK(g:Nat)(lb:Array Value)(eg:∀args w,(callFunc g args).run Tryz.prog w=.ok (.enter g args) w)(p:Kd->Bool)(A:Option Addr)(n c:Nat)(xs:List Kd)(w:World)
 (hs:Sl 3 encK w w.heap.size A n c xs)
 (hp:∀x W,x∈xs->Below w.heap.size w W->Calls Tryz.prog g (#[.agg #[.int .i64 x.w,.int .i64 x.p,.int .i64 x.m]]++lb) W λe W'=>e=.returned (.bool (p x))/\Below W.heap.size W W'):
 Calls Tryz.prog 121 #[.slice A n c,.func (.func g) #[] lb] w λe w'=>e=.returned (.bool (xs.any p))/\Below w.heap.size w w':=by
 have H:=Lib.hid (indexK g lb eg p A n c xs w hs hp)
 clear hs hp
 go_enter Tryz.func121,Tryz.ntmps121
 go_wp2_with (go_at_call 209;refine H.out.mono ?_;rintro e w1 ⟨rfl,hb1⟩)
 go_ret
 exact⟨ret_bool (idxB_ge p xs 0),hb1⟩
theorem idxB_has(x:Int)(xs:List Int):decide (0<=idxB (λy=>x==y) xs 0)=xs.contains x:=by
 rw[idxB_ge]
 induction xs with
 |nil=>rfl
 |cons y l ih=>simp only[List.any_cons,ih,List.contains_cons]
set_option maxHeartbeats 400000 in
theorem indexEq(x:Int)(A:Option Addr)(n c:Nat)(xs:List Int)(w:World)(hs:Sl 1 encI w w.heap.size A n c xs):
 Calls Tryz.prog 210 #[.slice A n c,.int .i64 x] w λe w'=>e=.returned (.int .i64 (idxB (λy=>x==y) xs 0))/\Below w.heap.size w w':=by
 have hl:=hs.len
 have hcap:=hs.cap
 have hbig:=hs.big
 go_enter Tryz.func210,Tryz.ntmps210
 go_wp2
 go_loopw [8] (λi wr=>∃k:Nat,k<=n/\i=.int .i64 k/\(∀j y,j<k->xs[j]? =some y->(x==y)=false)/\Below w.heap.size w wr) (λi _=>n-(intOf i).toNat)
 case atStart=>exact⟨0,by omega,rfl,by omega,Below.refl _ _⟩
 case round=>
  obtain⟨k,hk,rfl,hno,hb⟩:=hrel
  by_cases hlt:k<n
  ·obtain⟨b,o,y,rfl,hB,hx,hc0⟩:=(hs.below hb).ltI hlt
   have Hno:=Lib.hid hno
   have Hx:=Lib.hid hx
   have Hb:=Lib.hid hb
   clear hno hx hb
   cases hxy:(x==y)with
   |true=>
    have Hxy:=Lib.hid hxy
    go_wp2
    go_ret
    exact⟨ret_int (idxB_at (p:=λy=>x==y) Hno.out Hx.out Hxy.out).symm,Hb.out⟩
   |false=>
    have Hxy:=Lib.hid hxy
    go_wp2
    go_roundw
    case rel=>exact⟨k+1,by omega,by go_num,no_succ (p:=λy=>x==y) Hno.out Hx.out Hxy.out,Hb.out⟩
    case measure=>simp[intOf];omega
  ·obtain rfl:k=n:=by omega
   have Hno:=Lib.hid hno
   have Hb:=Lib.hid hb
   clear hno hb
   go_wp2
   go_ret
   exact⟨ret_int (idxB_no (p:=λy=>x==y) (by rw[hl];exact Hno.out)).symm,Hb.out⟩
set_option maxHeartbeats 400000 in
theorem containsEq(x:Int)(A:Option Addr)(n c:Nat)(xs:List Int)(w:World)(hs:Sl 1 encI w w.heap.size A n c xs):
 Calls Tryz.prog 122 #[.slice A n c,.int .i64 x] w λe w'=>e=.returned (.bool (xs.contains x))/\Below w.heap.size w w':=by
 have H:=Lib.hid (indexEq x A n c xs w hs)
 clear hs
 go_enter Tryz.func122,Tryz.ntmps122
 go_wp2_with (go_at_call 210;refine H.out.mono ?_;rintro e w1 ⟨rfl,hb1⟩)
 go_ret
 exact⟨ret_bool (idxB_has x xs),hb1⟩
end Go.Proofs.YtpbcmkebdcejkaaGreatDoor.C
namespace Go.Proofs.YtpbcmkebdcejkaaGreatDoor.C
open Go.RowKit Go.Shelf
def outB(lo hi x:Int):Bool:=decide (x<lo)||decide (hi<x)
@[irreducible] def outR (lo hi x:Int):Bool:=outB lo hi x
theorem outR_eq(lo hi x:Int):outR lo hi x=outB lo hi x:=by unfold outR;rfl
set_option maxHeartbeats 400000 in
theorem withinC(B1 B2:Nat)(lo hi x:Int)(w:World)(h1:w.cell? ⟨B1,0,none⟩=some (.int .i64 lo))(h2:w.cell? ⟨B2,0,none⟩=some (.int .i64 hi)):
 Calls Tryz.prog 208 #[.int .i64 x,.pointer (some ⟨B1,0,none⟩),.pointer (some ⟨B2,0,none⟩)] w λe w'=>e=.returned (.bool (outR lo hi x))/\Below w.heap.size w w':=by
 have H:=Lib.hid (outR_eq lo hi x)
 by_cases c1:x<lo
 ·go_enter Tryz.func208,Tryz.ntmps208
  go_wp2
  go_ret
  exact⟨ret_bool (by rw[H.out];simp[outB,c1]),Below.refl _ _⟩
 ·by_cases c2:hi<x
  ·go_enter Tryz.func208,Tryz.ntmps208
   go_wp2
   go_ret
   exact⟨ret_bool (by rw[H.out];simp[outB,c2]),Below.refl _ _⟩
  ·go_enter Tryz.func208,Tryz.ntmps208
   go_wp2
   go_ret
   exact⟨ret_bool (by rw[H.out];simp[outB,c1,c2]),Below.refl _ _⟩
set_option maxHeartbeats 400000 in
theorem within_any(lo hi:Int)(A:Option Addr)(n c:Nat)(xs:List Int)(w:World)(hs:Sl 1 encI w w.heap.size A n c xs):
 Calls Tryz.prog 119 #[.int .i64 lo,.int .i64 hi,.slice A n c] w λe w'=>e=.returned (.bool (!(xs.any (outR lo hi))))/\Below w.heap.size w w':=by
 have Hs:=Lib.hid hs
 clear hs
 go_enter Tryz.func119,Tryz.ntmps119
 go_wp2_with (go_at_call 111;refine(containsI 208 #[.pointer (some ⟨w.heap.size,0,none⟩),.pointer (some ⟨w.heap.size+1,0,none⟩)] (enters_of Tryz.func208 (by kernel_rfl) rfl) (outR lo hi) A n c xs _ (Hs.out.later ?_) ?_).mono ?_)
 ·exact((Below.refl _ _).alloc (Nat.le_refl _) _).alloc (by simp) _
 ·intro x W _ hb
  exact withinC _ _ lo hi x W ((hb.cell (p:=⟨w.heap.size,0,none⟩) (by simp;omega)).trans (by go_simp)) ((hb.cell (p:=⟨w.heap.size+1,0,none⟩) (by simp)).trans (by go_simp))
 ·rintro e w1⟨rfl,hb1⟩
  have Hb1:=Lib.hid hb1
  clear hb1
  go_wp2
  go_ret
  exact⟨rfl,Below.later (((Below.refl _ _).alloc (Nat.le_refl _) _).alloc (by simp) _) Hb1.out⟩
@[irreducible] def inR (lo hi x:Int):Bool:=decide (lo<=x)&&decide (x<=hi)
theorem inR_iff(lo hi x:Int):inR lo hi x=true↔lo<=x/\x<=hi:=by unfold inR;simp
theorem inR_no(lo hi x:Int):inR lo hi x=false↔x<lo\/hi<x:=by
 rw[Bool.eq_false_iff,ne_eq,inR_iff];omega
theorem inR_any(lo hi x:Int):(!([x].any (outR lo hi)))=inR lo hi x:=by
 rw[Bool.eq_iff_iff,inR_iff];simp[outR_eq,outB]
theorem Sl.one{w:World}{B b:Nat}{x:Int}(hb:b<B)(h:w.cell? ⟨b,0,none⟩=some (.int .i64 x)):Sl 1 encI w B (some ⟨b,0,none⟩) 1 1 [x]:=
 ⟨rfl,by omega,by omega,λ_=>⟨b,0,rfl,hb,λi y hy j u hu=>by
   match i,hy with
   |0,rfl=>match j,hu with
    |0,rfl=>simpa using h⟩⟩
theorem within_one(lo hi x:Int)(b:Nat)(w:World)(hb:b<w.heap.size)(h:w.cell? ⟨b,0,none⟩=some (.int .i64 x)):
 Calls Tryz.prog 119 #[.int .i64 lo,.int .i64 hi,.slice (some ⟨b,0,none⟩) 1 1] w λe w'=>e=.returned (.bool (inR lo hi x))/\Below w.heap.size w w':=
 (within_any lo hi _ _ _ [x] w (Sl.one hb h)).mono λ_ _⟨he,hw⟩=>⟨by rw[he,inR_any],hw⟩
def gdB(L:Int)(fs:List Int)(j:Nat):Bool:=decide (0<=fs.getD j 0)&&decide (fs.getD j 0<L)&&(decide (j=0)||decide (fs.getD (j-1) 0<fs.getD j 0))
def ribE(L:Int)(fs:List Int):Int:=if inR 1 24 L then(if(List.range fs.length).all (gdB L fs)then 0 else 3)else 6
theorem ribE_len{L:Int}{fs:List Int}(h:inR 1 24 L=false):ribE L fs=6:=by simp[ribE,h]
theorem ribE_ok{L:Int}{fs:List Int}(h:inR 1 24 L=true)(hg:∀j,j<fs.length->gdB L fs j=true):ribE L fs=0:=by
 have:(List.range fs.length).all (gdB L fs)=true:=by rw[List.all_eq_true];intro j hj;exact hg j (List.mem_range.1 hj)
 simp[ribE,h,this]
theorem ribE_bad{L:Int}{fs:List Int}(h:inR 1 24 L=true){j:Nat}(hj:j<fs.length)(hg:gdB L fs j=false):ribE L fs=3:=by
 have:(List.range fs.length).all (gdB L fs)=false:=by
  rw[List.all_eq_false];exact⟨j,List.mem_range.2 hj,by simp[hg]⟩
 simp[ribE,h,this]
def nextF(fs:List Int)(k:Nat):Int:=if k=0 then 0 else fs.getD (k-1) 0+1
theorem nextF_in{L:Int}{fs:List Int}{k:Nat}{x:Int}(hx:fs[k]? =some x) (hg:∀j,j<k->gdB L fs j=true):inR (nextF fs k) (L-1) x=gdB L fs k:=by
 have hd:fs.getD k 0=x:=by simp[List.getD,hx]
 rw[Bool.eq_iff_iff,inR_iff]
 by_cases h0:k=0
 ·subst h0;unfold gdB;rw[hd];simp[nextF];omega
 ·have h1:=hg (k-1) (by omega)
  have hd2:0<=fs.getD (k-1) 0:=by
   simp only[gdB,Bool.and_eq_true,decide_eq_true_eq]at h1;exact h1.1.1
  simp only[nextF,gdB,hd,h0,if_false,Bool.and_eq_true,Bool.or_eq_true,decide_eq_true_eq,false_or];omega
theorem nextF_bd{L:Int}{fs:List Int}{k:Nat}(hL:inR 1 24 L=true)(hg:∀j,j<k->gdB L fs j=true):0<=nextF fs k/\nextF fs k<=25:=by
 rw[inR_iff]at hL
 by_cases h0:k=0
 ·subst h0;simp[nextF]
 ·have h1:=hg (k-1) (by omega)
  simp only[gdB,Bool.and_eq_true,decide_eq_true_eq]at h1
  simp only[nextF,h0,if_false];omega
theorem nextF_succ{fs:List Int}{k:Nat}{x:Int}(hx:fs[k]? =some x):nextF fs (k+1)=x+1:=by
 simp[nextF,List.getD,hx]
theorem gd_succ{L:Int}{fs:List Int}{k:Nat}(h:∀j,j<k->gdB L fs j=true)(hk:gdB L fs k=true):∀j,j<k+1->gdB L fs j=true:=by
 intro j hj
 by_cases e:j=k
 ·subst e;exact hk
 ·exact h j (by omega)
set_option maxHeartbeats 1000000 in
theorem ribbon_any(L:Int)(A:Option Addr)(n c:Nat)(fs:List Int)(w:World)(hs:Sl 1 encI w w.heap.size A n c fs):
 Calls Tryz.prog 43 #[.agg #[.int .i64 L,.slice A n c]] w λe w'=>e=.returned (.int .i64 (ribE L fs))/\Below w.heap.size w w':=by
 have hl:=hs.len
 have hcap:=hs.cap
 have hbig:=hs.big
 cases hL:inR 1 24 L with
 |false=>
  have HE:=Lib.hid (ribE_len (fs:=fs) hL)
  clear hs
  go_enter Tryz.func43,Tryz.ntmps43
  go_wp2_with (go_at_call 119;refine(within_one _ _ L (w.heap.size+1) _ (by simp) (by go_simp)).mono ?_;rintro e w1 ⟨rfl,hb1⟩)
  go_ret
  exact⟨ret_int HE.out.symm,Below.later (((Below.refl _ _).alloc (Nat.le_refl _) _).alloc (by simp) _) hb1⟩
 |true=>
  have Hs:=Lib.hid hs
  have HL:=Lib.hid hL
  obtain⟨hL1,hL2⟩:=(inR_iff 1 24 L).1 hL
  clear hs
  go_enter Tryz.func43,Tryz.ntmps43
  go_wp2_with (go_at_call 119;refine(within_one _ _ L (w.heap.size+1) _ (by simp) (by go_simp)).mono ?_;rintro e w1 ⟨rfl,hb1⟩;obtain⟨hc1,hf1⟩:=bcell hb1)
  have hz:w.heap.size<w1.heap.size:=by have:=hb1.size;simp at this;omega
  have k0:w1.cell? ⟨w.heap.size,0,none⟩=some (.int .i64 L):=by rw[hc1 _ _ (by simp;omega)];go_simp
  have k1:w1.cell? ⟨w.heap.size,1,none⟩=some (.slice A n c):=by rw[hc1 _ _ (by simp;omega)];go_simp
  have HB:=Lib.hid (Below.later (((Below.refl _ w).alloc (Nat.le_refl _) (Obj.cells #[.int .i64 L,.slice A n c] 24)).alloc (by simp) _) hb1)
  clear hb1 hc1 hf1 hL
  go_wp2_with fail
  go_loopw [3,14] (λx i wr=>∃k:Nat,k<=n/\x=.int .i64 (nextF fs k)/\i=.int .i64 k/\(∀j,j<k->gdB L fs j=true)/\Below w1.heap.size w1 wr) (λ_ i _=>n-(intOf i).toNat)
  case atStart=>exact⟨0,by omega,rfl,rfl,by omega,Below.refl _ _⟩
  case round=>
   obtain⟨k,hk,rfl,rfl,hno,hb⟩:=hrel
   obtain⟨hc,hf⟩:=bcell hb
   have hzr:=hb.size
   have hsz:w.heap.size<wr.heap.size:=by omega
   by_cases hlt:k<n
   ·obtain⟨b,o,x,rfl,hB,hx,hc0⟩:=((Hs.out.below HB.out).below (hb.mono HB.out.size)).ltI hlt
    have hin:=nextF_in hx hno
    obtain⟨hn1,hn2⟩:=nextF_bd HL.out hno
    have HS:=Lib.hid (nextF_succ hx)
    have Hno:=Lib.hid hno
    have Hb:=Lib.hid hb
    clear hno hb hx
    cases hg:gdB L fs k with
    |false=>
     rw[hg]at hin
     have HE:=Lib.hid (ribE_bad HL.out (by rw[hl];exact hlt) hg)
     clear hg
     generalize nextF fs k=nx at*
     go_wp2_with (go_at_call 119;refine(within_one nx _ x wr.heap.size _ (by simp) (by go_simp)).mono ?_;rintro e w2 ⟨rfl,hb2⟩;obtain⟨hc2,hf2⟩:=bcell hb2)
     go_ret
     exact⟨ret_int HE.out.symm,Below.later (balloc (Below.later HB.out Hb.out) _) hb2⟩
    |true=>
     rw[hg]at hin
     have Hno1:=Lib.hid (gd_succ Hno.out hg)
     obtain⟨hx1,hx2⟩:=(inR_iff _ _ _).1 hin
     clear hg
     generalize nextF fs k=nx at*
     go_wp2_with (go_at_call 119;refine(within_one nx _ x wr.heap.size _ (by simp) (by go_simp)).mono ?_;rintro e w2 ⟨rfl,hb2⟩;obtain⟨hc2,hf2⟩:=bcell hb2)
     go_roundw
     case rel=>exact⟨k+1,by omega,by rw[HS.out],by go_num,Hno1.out,Below.later (balloc Hb.out _) hb2⟩
     case measure=>simp[intOf];omega
   ·obtain rfl:k=n:=by omega
    have HE:=Lib.hid (ribE_ok HL.out (by rw[hl];exact hno))
    have Hb:=Lib.hid hb
    clear hno hb
    go_wp2
    go_ret
    exact⟨ret_int HE.out.symm,Below.later HB.out Hb.out⟩
@[irreducible] def badK (x:Kd):Bool:=!inR 1 24 x.w||decide (x.p<1)||decide (1000<x.p)||!inR 0 24 x.m
theorem badK_iff(x:Kd):badK x=false↔(1<=x.w/\x.w<=24)/\(1<=x.p/\x.p<=1000)/\(0<=x.m/\x.m<=24):=by
 unfold badK
 rw[Bool.or_eq_false_iff,Bool.or_eq_false_iff,Bool.or_eq_false_iff]
 simp only[Bool.not_eq_false',inR_iff,decide_eq_false_iff_not]
 omega
theorem badK_of1{x:Kd}(h:inR 1 24 x.w=false):badK x=true:=by unfold badK;simp[h]
theorem badK_of2{x:Kd}(h:x.p<1):badK x=true:=by unfold badK;simp[h]
theorem badK_of3{x:Kd}(h:1000<x.p):badK x=true:=by unfold badK;simp[h]
theorem badK_of4{x:Kd}(h:inR 0 24 x.m=false):badK x=true:=by unfold badK;simp[h]
set_option maxHeartbeats 1000000 in
theorem stray_any(x:Kd)(w:World):
 Calls Tryz.prog 120 #[.agg #[.int .i64 x.w,.int .i64 x.p,.int .i64 x.m]] w λe w'=>e=.returned (.bool (badK x))/\Below w.heap.size w w':=by
 obtain⟨kw,kp,km⟩:=x
 cases h1:inR 1 24 kw with
 |false=>
  have HE:=Lib.hid (badK_of1 (x:=⟨kw,kp,km⟩) h1)
  go_enter Tryz.func120,Tryz.ntmps120
  go_wp2_with (go_at_call 119;refine(within_one _ _ kw (w.heap.size+1) _ (by simp) (by go_simp)).mono ?_;rintro e w1 ⟨rfl,hb1⟩)
  go_ret
  exact⟨ret_bool HE.out.symm,Below.later (balloc (balloc (brefl _) _) _) hb1⟩
 |true=>
  by_cases h2:kp<1
  ·have HE:=Lib.hid (badK_of2 (x:=⟨kw,kp,km⟩) h2)
   go_enter Tryz.func120,Tryz.ntmps120
   go_wp2_with (go_at_call 119;refine(within_one _ _ kw (w.heap.size+1) _ (by simp) (by go_simp)).mono ?_;rintro e w1 ⟨rfl,hb1⟩;obtain⟨hc1,hf1⟩:=bcell hb1)
   go_ret
   exact⟨ret_bool HE.out.symm,Below.later (balloc (balloc (brefl _) _) _) hb1⟩
  ·by_cases h3:1000<kp
   ·have HE:=Lib.hid (badK_of3 (x:=⟨kw,kp,km⟩) h3)
    go_enter Tryz.func120,Tryz.ntmps120
    go_wp2_with (go_at_call 119;refine(within_one _ _ kw (w.heap.size+1) _ (by simp) (by go_simp)).mono ?_;rintro e w1 ⟨rfl,hb1⟩;obtain⟨hc1,hf1⟩:=bcell hb1)
    go_ret
    exact⟨ret_bool HE.out.symm,Below.later (balloc (balloc (brefl _) _) _) hb1⟩
   ·cases h4:inR 0 24 km with
    |false=>
     have HE:=Lib.hid (badK_of4 (x:=⟨kw,kp,km⟩) h4)
     go_enter Tryz.func120,Tryz.ntmps120
     go_wp2_with fail
     refine(within_one 1 24 kw (w.heap.size+1) _ (by simp) (by go_simp)).mono ?_
     rintro e w1⟨rfl,hb1⟩
     obtain⟨hc1,hf1⟩:=bcell hb1
     go_wp2_with fail
     refine(within_one 0 24 km w1.heap.size _ (by simp) (by go_simp)).mono ?_
     rintro e w2⟨rfl,hb2⟩
     go_wp2_with fail
     go_ret
     exact⟨ret_bool HE.out.symm,Below.later (balloc (Below.later (balloc (balloc (brefl _) _) _) hb1) _) hb2⟩
    |true=>
     have HE:=Lib.hid ((badK_iff ⟨kw,kp,km⟩).2 ⟨(inR_iff _ _ _).1 h1,⟨by show 1<=kp;omega,by show kp<=1000;omega⟩,(inR_iff _ _ _).1 h4⟩)
     go_enter Tryz.func120,Tryz.ntmps120
     go_wp2_with fail
     refine(within_one 1 24 kw (w.heap.size+1) _ (by simp) (by go_simp)).mono ?_
     rintro e w1⟨rfl,hb1⟩
     obtain⟨hc1,hf1⟩:=bcell hb1
     go_wp2_with fail
     refine(within_one 0 24 km w1.heap.size _ (by simp) (by go_simp)).mono ?_
     rintro e w2⟨rfl,hb2⟩
     go_wp2_with fail
     go_ret
     exact⟨ret_bool (by rw[HE.out];simp;omega),Below.later (balloc (Below.later (balloc (balloc (brefl _) _) _) hb1) _) hb2⟩
def kndE(ks:List Kd):Int:=if inR 1 6 ks.length then(if ks.any badK then 3 else 0)else 6
theorem kndE_len{ks:List Kd}(h:inR 1 6 ks.length=false):kndE ks=6:=by simp[kndE,h]
theorem kndE_of{ks:List Kd}(h:inR 1 6 ks.length=true):kndE ks=if ks.any badK then 3 else 0:=by simp[kndE,h]
set_option maxHeartbeats 1000000 in
theorem kinds_any(A:Option Addr)(n c:Nat)(ks:List Kd)(w:World)(hs:Sl 3 encK w w.heap.size A n c ks):
 Calls Tryz.prog 44 #[.slice A n c] w λe w'=>e=.returned (.int .i64 (kndE ks))/\Below w.heap.size w w':=by
 obtain rfl:=hs.len
 have hcap:=hs.cap
 have hbig:=hs.big
 have Hs:=Lib.hid hs
 clear hs
 cases hL:inR 1 6 ks.length with
 |false=>
  have HE:=Lib.hid (kndE_len hL)
  go_enter Tryz.func44,Tryz.ntmps44
  go_wp2_with fail
  refine(within_one 1 6 (ks.length:Int) w.heap.size _ (by simp) (by go_simp)).mono ?_
  rintro e w1⟨rfl,hb1⟩
  go_wp2_with fail
  go_ret
  exact⟨ret_int HE.out.symm,Below.later (balloc (brefl _) _) hb1⟩
 |true=>
  have HE:=Lib.hid (kndE_of hL)
  go_enter Tryz.func44,Tryz.ntmps44
  go_wp2_with fail
  refine(within_one 1 6 (ks.length:Int) w.heap.size _ (by simp) (by go_simp)).mono ?_
  rintro e w1⟨rfl,hb1⟩
  go_wp2_with fail
  have HB:=Lib.hid (Below.later (balloc (brefl w) _) hb1)
  refine(containsK 120 #[] (enters_of Tryz.func120 (by kernel_rfl) rfl) badK A _ c ks _ (Hs.out.later HB.out) (λx W _ _=>stray_any x W)).mono ?_
  rintro e w2⟨rfl,hb2⟩
  clear hb1
  cases hk:ks.any badK with
  |false=>
   rw[hk]at HE
   go_wp2_with fail
   go_ret
   exact⟨ret_int HE.out.symm,Below.later HB.out hb2⟩
  |true=>
   rw[hk]at HE
   go_wp2_with fail
   go_ret
   exact⟨ret_int HE.out.symm,Below.later HB.out hb2⟩
end Go.Proofs.YtpbcmkebdcejkaaGreatDoor.C
namespace Go.Proofs.YtpbcmkebdcejkaaGreatDoor.C
open Go.RowKit Go.Shelf
def KOk(ks:List Kd):Prop:=1<=ks.length/\ks.length<=6/\∀x∈ks,badK x=false
theorem KOk.bd{ks:List Kd}(h:KOk ks){i:Nat}{x:Kd}(hx:ks[i]? =some x):(1<=x.w/\x.w<=24)/\(1<=x.p/\x.p<=1000)/\(0<=x.m/\x.m<=24):=(badK_iff x).1 (h.2.2 x (List.mem_of_getElem? hx))
theorem KOk.of{ks:List Kd}(h:kndE ks=0):KOk ks:=by
 unfold kndE at h
 split at h
 ·rename_i h1
  rw[inR_iff]at h1
  split at h
  ·simp at h
  ·rename_i h2
   exact⟨by omega,by omega,λx hx=>by
    cases hb:badK x with
    |false=>rfl
    |true=>exact absurd (List.any_eq_true.2 ⟨x,hx,hb⟩) h2⟩
 ·simp at h
structure TabC(w:World)(B T:Nat)(L:Nat)(FA:Option Addr)(fn fc:Nat)(KA:Option Addr)(kc:Nat)(ks:List Kd)(F:Nat->Int):Prop where
 lt:T<B
 len:w.cell? ⟨T,0,none⟩=some (.int .i64 L)
 flt:w.cell? ⟨T,1,none⟩=some (.slice FA fn fc)
 knd:w.cell? ⟨T,2,none⟩=some (.slice KA ks.length kc)
 kds:Sl 3 encK w B KA ks.length kc ks
 fa:∀j,j<25->w.cell? ⟨T,3+j,none⟩=some (.int .i64 (F j))
structure Tab(w:World)(B T:Nat)(L:Nat)(FA:Option Addr)(fn fc:Nat)(KA:Option Addr)(kc:Nat)(ks:List Kd)(F A Bh:Nat->Int):Prop where
 core:TabC w B T L FA fn fc KA kc ks F
 ah:∀j,j<25->w.cell? ⟨T,28+j,none⟩=some (.int .i64 (A j))
 be:∀j,j<25->w.cell? ⟨T,53+j,none⟩=some (.int .i64 (Bh j))
section
variable{w w':World}{B B' T L:Nat}{FA:Option Addr}{fn fc:Nat}{KA:Option Addr}{kc:Nat}{ks:List Kd}{F A Bh:Nat->Int}
theorem TabC.keep(h:TabC w B T L FA fn fc KA kc ks F)(hk:∀b o,((b=T/\o<28)\/(b≠T/\∃o',KA=some ⟨b,o',none⟩))->w'.cell? ⟨b,o,none⟩=w.cell? ⟨b,o,none⟩)(hne:∀b o,KA=some ⟨b,o,none⟩->b≠T):TabC w' B T L FA fn fc KA kc ks F:=
 ⟨h.lt,(hk T 0 (.inl ⟨rfl,by omega⟩)).trans h.len,(hk T 1 (.inl ⟨rfl,by omega⟩)).trans h.flt,(hk T 2 (.inl ⟨rfl,by omega⟩)).trans h.knd,
  ⟨h.kds.len,h.kds.cap,h.kds.big,λhn=>by
    obtain⟨b,o,hA,hB,hc⟩:=h.kds.at_ hn
    exact⟨b,o,hA,hB,λi x hx j u hu=>(hk b _ (.inr ⟨hne b o hA,o,hA⟩)).trans (hc i x hx j u hu)⟩⟩,
  λj hj=>(hk T _ (.inl ⟨rfl,by omega⟩)).trans (h.fa j hj)⟩
theorem TabC.below(h:TabC w B T L FA fn fc KA kc ks F)(hb:Below B w w'):TabC w' B T L FA fn fc KA kc ks F:=
 ⟨h.lt,(hb.cell (p:=⟨T,0,none⟩) h.lt).trans h.len,(hb.cell (p:=⟨T,1,none⟩) h.lt).trans h.flt,(hb.cell (p:=⟨T,2,none⟩) h.lt).trans h.knd,h.kds.below hb,
  λj hj=>(hb.cell (p:=⟨T,3+j,none⟩) h.lt).trans (h.fa j hj)⟩
theorem TabC.more(h:TabC w B T L FA fn fc KA kc ks F)(hB:B<=B'):TabC w B' T L FA fn fc KA kc ks F:=
 ⟨Nat.lt_of_lt_of_le h.lt hB,h.len,h.flt,h.knd,h.kds.more hB,h.fa⟩
theorem TabC.later(h:TabC w w.heap.size T L FA fn fc KA kc ks F)(hb:Below w.heap.size w w'):TabC w' w'.heap.size T L FA fn fc KA kc ks F:=(h.below hb).more hb.size
end
set_option maxHeartbeats 400000 in
theorem end_any(T kb ko n c i:Nat)(frm W:Int)(w:World)
 (h1:w.cell? ⟨T,2,none⟩=some (.slice (some ⟨kb,ko,none⟩) n c))(hi:i<n)(hT:T<w.heap.size)(hkb:kb<w.heap.size)
 (h2:w.cell? ⟨kb,ko+i*3,none⟩=some (.int .i64 W))(hf0:0<=frm)(hf1:frm<=1000)(hW0:0<=W)(hW1:W<=1000):
 Calls Tryz.prog 126 #[.pointer (some ⟨T,0,none⟩),.agg #[.int .i64 frm,.int .i64 i]] w λe w'=>e=.returned (.int .i64 (frm+W))/\Below w.heap.size w w':=by
 go_enter Tryz.func126,Tryz.ntmps126
 go_wp2
 refine dag 13 (by kernel_rfl) (by kernel_rfl) (.is ?_::.is ?_::.is ?_::.is ?_::.is ?_::.is ?_::.is ?_::.is ?_::.is ?_::.is ?_::.is ?_::.is ?_::.is ?_::[]) rfl ?st ?ob
 case ob=>
  intro env W' hG
  obtain⟨hc,hf⟩:=bcell hG
  repeat (refine obls_is ?_ ?_;unfold doesAt;go_simp;(try go_bits);refine⟨brefl _,?_⟩;rfl;intro K hK;go_simp;refine hK _ ?_;clear hK K)
  refine obls_nil (λ_=>?_)
  go_wp2
  go_ret
  exact⟨rfl,Below.later (balloc (brefl _) _) hG⟩
 case st=>simp[Spec.ok]
@[irreducible] def canB (L:Nat) (F:Nat->Int) (x:Kd) (fr:Nat):Bool:=decide (fr+x.w<=L)&&decide (F (fr+x.w.toNat)-F fr<=x.m)
theorem canB_iff{L:Nat}{F:Nat->Int}{x:Kd}{fr:Nat}:canB L F x fr=true↔fr+x.w<=L/\F (fr+x.w.toNat)-F fr<=x.m:=by unfold canB;simp
theorem end_tab{T L:Nat}{FA:Option Addr}{fn fc:Nat}{KA:Option Addr}{kc:Nat}{ks:List Kd}{F:Nat->Int}{w:World}(h:TabC w w.heap.size T L FA fn fc KA kc ks F)(hk:KOk ks)
 {i:Nat}{x:Kd}(hx:ks[i]? =some x) (frm:Int) (hf0:0<=frm) (hf1:frm<=1000):
 Calls Tryz.prog 126 #[.pointer (some ⟨T,0,none⟩),.agg #[.int .i64 frm,.int .i64 i]] w λe w'=>e=.returned (.int .i64 (frm+x.w))/\Below w.heap.size w w':=by
 have hi:i<ks.length:=(List.getElem?_eq_some_iff.1 hx).1
 obtain⟨b,o,y,hA,hb,hy,h0,_,_⟩:=h.kds.ltK hi
 rw[hx]at hy;cases hy
 have hbd:=hk.bd hx
 subst hA
 exact end_any T b o ks.length kc i frm x.w w h.knd hi h.lt hb h0 hf0 hf1 (by omega) (by omega)
set_option maxHeartbeats 1000000 in
set_option maxRecDepth 100000 in
theorem can_any(T L kb ko n c i fr wd:Nat)(m G1 G2:Int)(w:World)
 (h0:w.cell? ⟨T,0,none⟩=some (.int .i64 L))(h1:w.cell? ⟨T,2,none⟩=some (.slice (some ⟨kb,ko,none⟩) n c))(hi:i<n)(hT:T<w.heap.size)(hkb:kb<w.heap.size)
 (h2:w.cell? ⟨kb,ko+i*3,none⟩=some (.int .i64 wd))(h3:w.cell? ⟨kb,ko+i*3+2,none⟩=some (.int .i64 m))(hf1:fr<=24)(hW1:wd<=24)(hL:L<=24)
 (h4:w.cell? ⟨T,3+fr,none⟩=some (.int .i64 G1))(h5:fr+wd<=L->w.cell? ⟨T,3+(fr+wd),none⟩=some (.int .i64 G2))(hG1:0<=G1)(hG1':G1<=24)(hG2:0<=G2)(hG2':G2<=24)
 (q:Bool)(hq:q=(decide (fr+wd<=L)&&decide (G2-G1<=m))):
 Calls Tryz.prog 212 #[.pointer (some ⟨T,0,none⟩),.agg #[.int .i64 fr,.int .i64 i]] w λe w'=>e=.returned (.bool q)/\Below w.heap.size w w':=by
 have Hq:=Lib.hid hq
 clear hq
 by_cases c1:fr+wd<=L
 ·have h5':=h5 c1
  have hd1:decide ((fr:Int)+(wd:Int)<=(L:Int))=true:=by simp;omega
  clear h5
  go_enter Tryz.func212,Tryz.ntmps212
  go_wp2_with fail
  refine(end_any T kb ko n c i fr wd _ (by go_simp) hi (by simp;omega) (by simp;omega) (by go_simp) (by omega) (by omega) (by omega) (by omega)).mono ?_
  rintro e w1⟨rfl,hb1⟩
  have HB:=Lib.hid (Below.later (balloc (brefl w) (.cells #[.int .i64 fr,.int .i64 i] 188)) hb1)
  have hz:w.heap.size<w1.heap.size:=by have:=hb1.size;simp at this;omega
  have hT1:T<w1.heap.size:=by omega
  have hkb1:kb<w1.heap.size:=by omega
  have k0:w1.cell? ⟨w.heap.size,0,none⟩=some (.int .i64 fr):=(hb1.cell (p:=⟨w.heap.size,0,none⟩) (by simp)).trans (by go_simp)
  have k1:w1.cell? ⟨w.heap.size,1,none⟩=some (.int .i64 i):=(hb1.cell (p:=⟨w.heap.size,1,none⟩) (by simp)).trans (by go_simp)
  have e0:=(HB.out.cell (p:=⟨T,0,none⟩) hT).trans h0
  have e1:=(HB.out.cell (p:=⟨T,2,none⟩) hT).trans h1
  have e2:=(HB.out.cell (p:=⟨kb,ko+i*3,none⟩) hkb).trans h2
  have e3:=(HB.out.cell (p:=⟨kb,ko+i*3+2,none⟩) hkb).trans h3
  have e4:=(HB.out.cell (p:=⟨T,3+fr,none⟩) hT).trans h4
  have e5:=(HB.out.cell (p:=⟨T,3+(fr+wd),none⟩) hT).trans h5'
  have j0:(0:Int)<=(fr:Int)+(wd:Int):=by omega
  have j1:(fr:Int)+(wd:Int)<25:=by omega
  have j2:((fr:Int)+(wd:Int)).toNat=fr+wd:=by omega
  have j3:(fr:Int)<25:=by omega
  clear hb1 h0 h1 h2 h3 h4 h5' hT hkb
  go_wp2_with fail
  refine dag 34 (by kernel_rfl) (by kernel_rfl) (.is ?_::.is ?_::.is ?_::.is ?_::.is ?_::.is ?_::.is ?_::.is ?_::.is ?_::.is ?_::.is ?_::.is ?_::.is ?_::.is ?_::.is ?_::.is ?_::.is ?_::.is ?_::.is ?_::.is ?_::.is ?_::.is ?_::.is ?_::.is ?_::.is ?_::.is ?_::.is ?_::.is ?_::.is ?_::.is ?_::.is ?_::.is ?_::.is ?_::.is ?_::[]) rfl ?st ?ob
  case ob=>
   intro env W' hG
   obtain⟨hc,hf⟩:=bcell hG
   repeat (refine obls_is ?_ ?_;unfold doesAt;go_simp;(try go_bits);refine⟨brefl _,?_⟩;rfl;intro K hK;go_simp;refine hK _ ?_;clear hK K)
   refine obls_nil (λ_=>?_)
   go_wp2
   go_ret
   exact⟨ret_bool (by rw[Hq.out];simp[c1]),Below.later HB.out hG⟩
  case st=>simp[Spec.ok]
 ·have hd1:decide ((fr:Int)+(wd:Int)<=(L:Int))=false:=by simp;omega
  clear h5
  go_enter Tryz.func212,Tryz.ntmps212
  go_wp2_with fail
  refine(end_any T kb ko n c i fr wd _ (by go_simp) hi (by simp;omega) (by simp;omega) (by go_simp) (by omega) (by omega) (by omega) (by omega)).mono ?_
  rintro e w1⟨rfl,hb1⟩
  have HB:=Lib.hid (Below.later (balloc (brefl w) (.cells #[.int .i64 fr,.int .i64 i] 188)) hb1)
  have hz:w.heap.size<w1.heap.size:=by have:=hb1.size;simp at this;omega
  have hT1:T<w1.heap.size:=by omega
  have hkb1:kb<w1.heap.size:=by omega
  have k0:w1.cell? ⟨w.heap.size,0,none⟩=some (.int .i64 fr):=(hb1.cell (p:=⟨w.heap.size,0,none⟩) (by simp)).trans (by go_simp)
  have k1:w1.cell? ⟨w.heap.size,1,none⟩=some (.int .i64 i):=(hb1.cell (p:=⟨w.heap.size,1,none⟩) (by simp)).trans (by go_simp)
  have e0:=(HB.out.cell (p:=⟨T,0,none⟩) hT).trans h0
  have e1:=(HB.out.cell (p:=⟨T,2,none⟩) hT).trans h1
  have e2:=(HB.out.cell (p:=⟨kb,ko+i*3,none⟩) hkb).trans h2
  have e3:=(HB.out.cell (p:=⟨kb,ko+i*3+2,none⟩) hkb).trans h3
  have e4:=(HB.out.cell (p:=⟨T,3+fr,none⟩) hT).trans h4
  clear hb1 h0 h1 h2 h3 h4 hT hkb
  go_wp2_with fail
  refine dag 34 (by kernel_rfl) (by kernel_rfl) (.is ?_::.is ?_::.is ?_::.is ?_::.is ?_::.is ?_::.is ?_::.is ?_::.is ?_::.is ?_::.is ?_::.is ?_::.is ?_::.is ?_::.is ?_::.is ?_::.is ?_::.is ?_::.is ?_::.is ?_::.is ?_::.is ?_::.is ?_::.is ?_::.is ?_::.is ?_::.is ?_::.is ?_::.is ?_::.is ?_::.is ?_::.is ?_::.is ?_::.is ?_::[]) rfl ?st ?ob
  case ob=>
   intro env W' hG
   obtain⟨hc,hf⟩:=bcell hG
   repeat (refine obls_is ?_ ?_;unfold doesAt;go_simp;(try go_bits);(first|(refine⟨brefl _,?_⟩;rfl)|rfl);intro K hK;go_simp;refine hK _ ?_;clear hK K)
   refine obls_nil (λ_=>?_)
   go_wp2
   go_ret
   exact⟨ret_bool (by rw[Hq.out];simp[c1]),Below.later HB.out hG⟩
  case st=>simp[Spec.ok]
theorem can_tab{T L:Nat}{FA:Option Addr}{fn fc:Nat}{KA:Option Addr}{kc:Nat}{ks:List Kd}{F:Nat->Int}{w:World}(h:TabC w w.heap.size T L FA fn fc KA kc ks F)(hk:KOk ks)(hL:L<=24)
 (hF:∀j,0<=F j/\F j<=24){i:Nat}{x:Kd}(hx:ks[i]? =some x) (fr:Nat) (hf1:fr<=24):
 Calls Tryz.prog 212 #[.pointer (some ⟨T,0,none⟩),.agg #[.int .i64 fr,.int .i64 i]] w λe w'=>e=.returned (.bool (canB L F x fr))/\Below w.heap.size w w':=by
 have hi:i<ks.length:=(List.getElem?_eq_some_iff.1 hx).1
 obtain⟨b,o,y,hA,hb,hy,h0,_,h2⟩:=h.kds.ltK hi
 rw[hx]at hy;cases hy
 have hbd:=hk.bd hx
 subst hA
 obtain⟨wd,hw⟩:∃wd:Nat,x.w=wd:=⟨x.w.toNat,by omega⟩
 rw[hw]at h0
 refine can_any T L b o ks.length kc i fr wd x.m (F fr) (F (fr+wd)) w h.len h.knd hi h.lt hb h0 h2 hf1 (by omega) hL (h.fa fr (by omega)) (λhle=>?_) (hF _).1 (hF _).2 (hF _).1 (hF _).2 _ ?_
 ·have:=h.fa (fr+wd) (by omega)
  exact this
 ·rw[Bool.eq_iff_iff,canB_iff,hw]
  simp
  omega
end Go.Proofs.YtpbcmkebdcejkaaGreatDoor.C
