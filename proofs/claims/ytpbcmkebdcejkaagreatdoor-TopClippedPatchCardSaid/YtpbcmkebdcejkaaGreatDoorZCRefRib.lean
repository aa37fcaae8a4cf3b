/- The document: a fault, a sheet that can be cut, valid ribbons and kinds. -/
import Derived.Test.YtpbcmkebdcejkaaGreatDoorZCConcat
import Derived.Test.YtpbcmkebdcejkaaGreatDoorZCCheckCuts
import Derived.Test.YtpbcmkebdcejkaaGreatDoorZCCount
import Derived.ArgAppend
import Derived.Test.YtpbcmkebdcejkaaGreatDoorZCOpen
namespace Go.Proofs.YtpbcmkebdcejkaaGreatDoor.C
open Go.RowKit Go.Shelf
end Go.Proofs.YtpbcmkebdcejkaaGreatDoor.C
namespace Go.Proofs.YtpbcmkebdcejkaaGreatDoor.C
open Go.RowKit Go.Shelf
attribute [local go_sem] Oper.semAt_some
end Go.Proofs.YtpbcmkebdcejkaaGreatDoor.C
namespace Go.Proofs.YtpbcmkebdcejkaaGreatDoor.C
open Go.RowKit Go.Shelf
structure RR(w W:World)(L:Int)(A:Option Addr)(n c:Nat)(fs:List Int):Prop where
 bel:Below w.heap.size w W
 sl:Sl 1 encI W W.heap.size A n c fs
 b0:Blk W w.heap.size 24 #[.int .i64 L,.slice A n c]
theorem RR.later{w W W':World}{L:Int}{A:Option Addr}{n c:Nat}{fs:List Int}(h:RR w W L A n c fs)(hb:Below W.heap.size W W'):RR w W' L A n c fs:=⟨Below.later h.bel hb,h.sl.later hb,h.b0.later hb⟩
set_option maxRecDepth 100000 in
set_option maxHeartbeats 2000000 in
theorem refRib_any(L:Int)(A:Option Addr)(m c:Nat)(fs:List Int)(w:World)(hs:Sl 1 encI w w.heap.size A m c fs):
 Calls Tryz.prog 4 #[.agg #[.int .i64 L,.slice A m c]] w λe w'=>e=.returned (.int .i64 (ribE L fs))/\Below w.heap.size w w':=by
 have hcl:=hs.len
 have hcap:=hs.cap
 have hbig:=hs.big
 have HB0:=Lib.hid (show RR w (w.alloc (.cells #[.int .i64 L,.slice A m c] 24)) L A m c fs from⟨balloc (brefl w) _,hs.later (balloc (brefl w) _),Blk.new w _ _⟩)
 clear hs
 by_cases h1:L<1
 ·have d1:decide (L<1)=true:=by simpa using h1
  have HE:=Lib.hid (ribE_len (fs:=fs) ((inR_no _ _ _).2 (.inl h1)))
  go_enter Tryz.func4,Tryz.ntmps4
  go_wp2
  go_ret
  exact⟨ret_int HE.out.symm,balloc (brefl w) _⟩
 ·by_cases h2:24<L
  ·have d1:decide (L<1)=false:=by simpa using h1
   have d2:decide (24<L)=true:=by simpa using h2
   have HE:=Lib.hid (ribE_len (fs:=fs) ((inR_no _ _ _).2 (.inr h2)))
   go_enter Tryz.func4,Tryz.ntmps4
   go_wp2
   go_ret
   exact⟨ret_int HE.out.symm,balloc (brefl w) _⟩
  ·have d1:decide (L<1)=false:=by simpa using h1
   have d2:decide (24<L)=false:=by simpa using h2
   have hL:inR 1 24 L=true:=(inR_iff _ _ _).2 ⟨by omega,by omega⟩
   go_enter Tryz.func4,Tryz.ntmps4
   go_wp2_with fail
   clear d1 d2
   refine loop_n (λn a W=>a.defers=[]/\∃i:Nat,i+n=m/\RR w W L A m c fs/\(∀j,j<i->gdB L fs j=true)/\Fits (none::some (.pointer (some ⟨w.heap.size,0,none⟩))::none::some (.int .i64 (i:Nat))::none::none::none::none::none::none::none::none::none::none::none::none::none::none::none::none::none::none::none::none::none::none::none::none::none::none::none::none::none::none::none::none::none::none::none::none::none::none::none::none::none::none::none::none::none::none::none::none::none::[]) a.tmps.toList) m ?_ ?_
   ·refine⟨rfl,0,by omega,HB0.out,λj hj=>by omega,?_⟩
    repeat (first|exact fits_nil|refine fits_none ?_|refine fits_some ?_)
   clear HB0
   intro n a W hI K hK'
   obtain⟨hds,i,hin,hB,hno,hfit⟩:=hI
   obtain⟨f,hf⟩:=fits_act hfit
   rw[hds]at hf
   subst hf
   clear hfit hds
   simp only[fillP,Nat.reduceAdd]
   have c0:=hB.b0.cell 0
   have c1:=hB.b0.cell 1
   have z0:=hB.b0.lt
   by_cases hlt:i<m
   ·obtain⟨b,o,x,rfl,hb,hx,g0⟩:=hB.sl.ltI hlt
    have i1:(i:Int)<(m:Int):=by omega
    have i2:(0:Int)<=(i:Int):=by omega
    have hd:fs.getD i 0=x:=by simp[List.getD,hx]
    have hbad:gdB L fs i=false->ribE L fs=3:=λh=>ribE_bad hL (by omega) h
    by_cases q1:x<0
    ·have e1:decide (x<0)=true:=by simpa using q1
     have HR:=Lib.hid (hbad (by unfold gdB;rw[hd];simp;omega))
     have HB:=Lib.hid hB
     clear hK' hno hx hB hd hbad
     go_wp2_with fail
     refine dag 34 (by kernel_rfl) (by kernel_rfl) (.is ?_::.is ?_::.is ?_::.is ?_::.is ?_::.is ?_::.is ?_::.is ?_::.is ?_::.is ?_::.is ?_::.is ?_::.is ?_::.is ?_::.is ?_::.is ?_::.is ?_::.is ?_::.is ?_::.is ?_::.is ?_::.is ?_::.is ?_::.is ?_::.is ?_::.is ?_::.is ?_::.is ?_::.is ?_::.is ?_::.is ?_::.is ?_::.is ?_::.is ?_::[]) rfl ?st1 ?ob1
     case st1=>simp[Spec.ok]
     case ob1=>
      intro env W' hG
      obtain⟨hc,hf⟩:=bcell hG
      repeat (refine obls_is ?_ ?_;unfold doesAt;go_simp;(try go_bits);(first|(refine⟨brefl _,?_⟩;rfl)|rfl);intro K hK;go_simp;refine hK _ ?_;clear hK K)
      refine obls_nil (λ_=>?_)
      have HB2:=Lib.hid (HB.out.later hG)
      clear hc hf hG
      go_wp2
      go_ret
      exact⟨ret_int HR.out.symm,HB2.out.bel⟩
    have e1:decide (x<0)=false:=by simpa using q1
    by_cases q2:L<=x
    ·have e2:decide (L<=x)=true:=by simpa using q2
     have HR:=Lib.hid (hbad (by unfold gdB;rw[hd];simp;omega))
     have HB:=Lib.hid hB
     clear hK' hno hx hB hd hbad
     go_wp2_with fail
     refine dag 34 (by kernel_rfl) (by kernel_rfl) (.is ?_::.is ?_::.is ?_::.is ?_::.is ?_::.is ?_::.is ?_::.is ?_::.is ?_::.is ?_::.is ?_::.is ?_::.is ?_::.is ?_::.is ?_::.is ?_::.is ?_::.is ?_::.is ?_::.is ?_::.is ?_::.is ?_::.is ?_::.is ?_::.is ?_::.is ?_::.is ?_::.is ?_::.is ?_::.is ?_::.is ?_::.is ?_::.is ?_::.is ?_::[]) rfl ?st2 ?ob2
     case st2=>simp[Spec.ok]
     case ob2=>
      intro env W' hG
      obtain⟨hc,hf⟩:=bcell hG
      repeat (refine obls_is ?_ ?_;unfold doesAt;go_simp;(try go_bits);(first|(refine⟨brefl _,?_⟩;rfl)|rfl);intro K hK;go_simp;refine hK _ ?_;clear hK K)
      refine obls_nil (λ_=>?_)
      have HB2:=Lib.hid (HB.out.later hG)
      clear hc hf hG
      go_wp2
      go_ret
      exact⟨ret_int HR.out.symm,HB2.out.bel⟩
    have e2:decide (L<=x)=false:=by simpa using q2
    by_cases q3:i=0
    ·have e3:decide ((0:Int)<(i:Int))=false:=by simp;omega
     have e3n:¬(0<i):=by omega
     have hgood:gdB L fs i=true:=by unfold gdB;rw[hd];simp;omega
     have Hno:=Lib.hid (gd_succ hno hgood)
     have HB:=Lib.hid hB
     clear hno hx hB hd hbad hgood q3
     go_wp2_with fail
     refine dag 34 (by kernel_rfl) (by kernel_rfl) (.is ?_::.is ?_::.is ?_::.is ?_::.is ?_::.is ?_::.is ?_::.is ?_::.is ?_::.is ?_::.is ?_::.is ?_::.is ?_::.is ?_::.is ?_::.is ?_::.is ?_::.is ?_::.is ?_::.is ?_::.is ?_::.is ?_::.is ?_::.is ?_::.is ?_::.is ?_::.is ?_::.is ?_::.is ?_::.is ?_::.is ?_::.is ?_::.is ?_::.is ?_::[]) rfl ?st3 ?ob3
     case st3=>simp[Spec.ok]
     case ob3=>
      intro env W' hG
      obtain⟨hc,hf⟩:=bcell hG
      repeat (refine obls_is ?_ ?_;unfold doesAt;go_simp;(try go_bits);(first|(refine⟨brefl _,?_⟩;rfl)|rfl);intro K hK;go_simp;refine hK _ ?_;clear hK K)
      refine obls_nil (λ_=>?_)
      have HB2:=Lib.hid (HB.out.later hG)
      clear hc hf hG
      go_wp2
      refine hK' _ _ (n-1) (by omega) ⟨rfl,i+1,by omega,HB2.out,Hno.out,?_⟩
      repeat (first|exact fits_nil|refine fits_none ?_|refine fits_some ?_)
    have e3:decide ((0:Int)<(i:Int))=true:=by simp;omega
    have e3n:0<i:=by omega
    obtain⟨b',o',y,hA',_,hy,g1⟩:=hB.sl.ltI (i:=i-1) (by omega)
    cases hA'
    have i3:(0:Int)<=(i:Int)-1:=by omega
    have i6:(1:Int)<=(i:Int):=by omega
    have i4:(i:Int)-1<(m:Int):=by omega
    have i5:((i:Int)-1).toNat=i-1:=by omega
    have hd2:fs.getD (i-1) 0=y:=by simp[List.getD,hy]
    by_cases q4:x<=y
    ·have e4:decide (x<=y)=true:=by simpa using q4
     have HR:=Lib.hid (hbad (by unfold gdB;rw[hd,hd2];simp;omega))
     have HB:=Lib.hid hB
     clear hK' hno hx hB hd hbad hd2 hy
     go_wp2_with fail
     refine dag 34 (by kernel_rfl) (by kernel_rfl) (.is ?_::.is ?_::.is ?_::.is ?_::.is ?_::.is ?_::.is ?_::.is ?_::.is ?_::.is ?_::.is ?_::.is ?_::.is ?_::.is ?_::.is ?_::.is ?_::.is ?_::.is ?_::.is ?_::.is ?_::.is ?_::.is ?_::.is ?_::.is ?_::.is ?_::.is ?_::.is ?_::.is ?_::.is ?_::.is ?_::.is ?_::.is ?_::.is ?_::.is ?_::[]) rfl ?st4 ?ob4
     case st4=>simp[Spec.ok]
     case ob4=>
      intro env W' hG
      obtain⟨hc,hf⟩:=bcell hG
      repeat (refine obls_is ?_ ?_;unfold doesAt;go_simp;(try go_bits);(first|(refine⟨brefl _,?_⟩;rfl)|rfl);intro K hK;go_simp;refine hK _ ?_;clear hK K)
      refine obls_nil (λ_=>?_)
      have HB2:=Lib.hid (HB.out.later hG)
      clear hc hf hG
      go_wp2
      go_ret
      exact⟨ret_int HR.out.symm,HB2.out.bel⟩
    ·have e4:decide (x<=y)=false:=by simpa using q4
     have hgood:gdB L fs i=true:=by unfold gdB;rw[hd,hd2];simp;omega
     have Hno:=Lib.hid (gd_succ hno hgood)
     have HB:=Lib.hid hB
     clear hno hx hB hd hbad hgood hd2 hy
     go_wp2_with fail
     refine dag 34 (by kernel_rfl) (by kernel_rfl) (.is ?_::.is ?_::.is ?_::.is ?_::.is ?_::.is ?_::.is ?_::.is ?_::.is ?_::.is ?_::.is ?_::.is ?_::.is ?_::.is ?_::.is ?_::.is ?_::.is ?_::.is ?_::.is ?_::.is ?_::.is ?_::.is ?_::.is ?_::.is ?_::.is ?_::.is ?_::.is ?_::.is ?_::.is ?_::.is ?_::.is ?_::.is ?_::.is ?_::.is ?_::[]) rfl ?st5 ?ob5
     case st5=>simp[Spec.ok]
     case ob5=>
      intro env W' hG
      obtain⟨hc,hf⟩:=bcell hG
      repeat (refine obls_is ?_ ?_;unfold doesAt;go_simp;(try go_bits);(first|(refine⟨brefl _,?_⟩;rfl)|rfl);intro K hK;go_simp;refine hK _ ?_;clear hK K)
      refine obls_nil (λ_=>?_)
      have HB2:=Lib.hid (HB.out.later hG)
      clear hc hf hG
      go_wp2
      refine hK' _ _ (n-1) (by omega) ⟨rfl,i+1,by omega,HB2.out,Hno.out,?_⟩
      repeat (first|exact fits_nil|refine fits_none ?_|refine fits_some ?_)
   ·obtain rfl:i=m:=by omega
    have HR:=Lib.hid (ribE_ok hL (λj hj=>hno j (by omega)))
    have HB2:=Lib.hid hB
    clear hno hK' hB
    go_wp2
    go_ret
    exact⟨ret_int HR.out.symm,HB2.out.bel⟩
end Go.Proofs.YtpbcmkebdcejkaaGreatDoor.C
