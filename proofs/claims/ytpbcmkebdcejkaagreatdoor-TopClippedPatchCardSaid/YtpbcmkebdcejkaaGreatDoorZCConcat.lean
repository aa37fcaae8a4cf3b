/- slices.Grow of nil, and slices.Concat of two slices of one block, at int. -/
import Derived.Test.YtpbcmkebdcejkaaGreatDoorZCNew
import Derived.Maps.OwnIn
import Derived.DeepKeys3
import Derived.KernelRfl
import Derived.Test.YtpbcmkebdcejkaaGreatDoorZCCheckCuts
import Derived.Laws.CopyOwn
import Derived.Deep.RegionHeld3
import Derived.Deep.AppendLies
import Derived.Lib.AppendZeros
namespace Go.Proofs.YtpbcmkebdcejkaaGreatDoor.C
open Go.RowKit Go.Shelf Go.Maps
end Go.Proofs.YtpbcmkebdcejkaaGreatDoor.C
namespace Go.Proofs.YtpbcmkebdcejkaaGreatDoor.C
open Go.RowKit Go.Shelf
set_option maxHeartbeats 1000000 in
theorem Worth_ok(L:Nat)(FA:Option Addr)(fn fc:Nat)(fs:List Int)(KA:Option Addr)(kc:Nat)(ks:List Kd)(w:World)(hfs:Sl 1 encI w w.heap.size FA fn fc fs)(hks:Sl 3 encK w w.heap.size KA ks.length kc ks)(he:rkE L fs ks=0):
 Calls Tryz.prog 7 #[.agg #[.int .i64 L,.slice FA fn fc],.slice KA ks.length kc] w λe w'=>e=.returned (.tuple #[.int .i64 (aheadAt L (Fst fs L) ks L L),.int .i64 0])/\Below w.heap.size w w':=by
 have ho:=Lib.hid (λW hb=>open_ok L FA fn fc fs KA kc ks W (hfs.later (w':=W) hb) (hks.later hb) he)
 clear hfs hks he
 obtain⟨AL,hAL⟩:∃AL,aheadAt L (Fst fs L) ks L L=AL:=⟨_,rfl⟩
 rw[hAL]
 have HAL:=Lib.hid hAL
 clear hAL
 go_enter Tryz.func7,Tryz.ntmps7
 go_wp2_with fail
 refine(ho.out _ (balloc (brefl w) _)).mono ?_
 rintro e w1⟨T,rfl,hb1,hT⟩
 have k0:w1.cell? ⟨w.heap.size,0,none⟩=some (.int .i64 L):=(hb1.cell (p:=⟨w.heap.size,0,none⟩) (by simp)).trans (by go_simp)
 have zs:=hb1.size
 simp at zs
 have hz:w.heap.size<w1.heap.size:=by omega
 have hzT:=hT.tab.core.lt
 have ha:=hT.tab.ah L (by have:=hT.l2;omega)
 have hl2:=hT.l2
 have j0:(L:Int)<25:=by omega
 have HB:=Lib.hid (Below.later (balloc (brefl w) _) hb1)
 clear hb1 hT
 rw[HAL.out]at ha
 go_wp2_with fail
 refine dag 9 (by kernel_rfl) (by kernel_rfl) (.is ?_::.is ?_::.is ?_::.is ?_::.is ?_::.is ?_::.is ?_::.is ?_::.is ?_::[]) rfl ?st ?ob
 case st=>simp[Spec.ok]
 case ob=>
  intro env W' hG
  obtain⟨hc,hf⟩:=bcell hG
  repeat (refine obls_is ?_ ?_;unfold doesAt;go_simp;(try go_bits);refine⟨brefl _,?_⟩;rfl;intro K hK;go_simp;refine hK _ ?_;clear hK K)
  refine obls_nil (λ_=>?_)
  go_wp2
  go_ret2
  exact⟨rfl,Below.later HB.out hG⟩
end Go.Proofs.YtpbcmkebdcejkaaGreatDoor.C
namespace Go.Proofs.YtpbcmkebdcejkaaGreatDoor.C
open Go.RowKit Go.Shelf
end Go.Proofs.YtpbcmkebdcejkaaGreatDoor.C
