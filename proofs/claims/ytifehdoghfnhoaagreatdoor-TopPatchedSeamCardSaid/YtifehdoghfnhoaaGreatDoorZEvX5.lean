/- crossbandtop.works05 returns true, in every world. -/
import Derived.Test.YtifehdoghfnhoaaGreatDoorZEvWa
import Derived.Test.YtifehdoghfnhoaaGreatDoorZEvWb
import Derived.Test.YtifehdoghfnhoaaGreatDoorZEvWc
import Derived.Test.YtifehdoghfnhoaaGreatDoorZEvWd
import Derived.Test.YtifehdoghfnhoaaGreatDoorZEvW
import Derived.Test.YtifehdoghfnhoaaGreatDoorZTSWorks
import Derived.Test.YtifehdoghfnhoaaGreatDoorZEvV4a
import Derived.Test.YtifehdoghfnhoaaGreatDoorZEvV4b
import Derived.Test.YtifehdoghfnhoaaGreatDoorZEvV4c
import Derived.Test.YtifehdoghfnhoaaGreatDoorZEvZ
namespace Go.Proofs.YtifehdoghfnhoaaGreatDoor.Ev
open Go.RowKit Go.Shelf
noncomputable def w2_F0:List PC:=[w2_0,w2_1,w2_2,w2_3]
theorem w2_F0_ok:∀p∈w2_F0,PcOk Tryz.prog 146 p:=pcC w2_0_ok (pcC w2_1_ok (pcC w2_2_ok (pcC w2_3_ok (pcs_nil))))
noncomputable def w2_F1:List PC:=[w2_4]
theorem w2_F1_ok:∀p∈w2_F1,PcOk Tryz.prog 148 p:=pcC w2_4_ok (pcs_nil)
noncomputable def w2_F2:List PC:=[w2_5]
theorem w2_F2_ok:∀p∈w2_F2,PcOk Tryz.prog 149 p:=pcC w2_5_ok (pcs_nil)
noncomputable def w2_F3:List PC:=[w2_6]
theorem w2_F3_ok:∀p∈w2_F3,PcOk Tryz.prog 150 p:=pcC w2_6_ok (pcs_nil)
noncomputable def w2_F4:List PC:=[w2_7,w2_8,w2_9,w2_10]
theorem w2_F4_ok:∀p∈w2_F4,PcOk Tryz.prog 151 p:=pcC w2_7_ok (pcC w2_8_ok (pcC w2_9_ok (pcC w2_10_ok (pcs_nil))))
noncomputable def w2_F5:List PC:=[w2_11,w2_12,w2_13]
theorem w2_F5_ok:∀p∈w2_F5,PcOk Tryz.prog 152 p:=pcC w2_11_ok (pcC w2_12_ok (pcC w2_13_ok (pcs_nil)))
noncomputable def w2_F6:List PC:=[w2_14]
theorem w2_F6_ok:∀p∈w2_F6,PcOk Tryz.prog 154 p:=pcC w2_14_ok (pcs_nil)
noncomputable def w2_F7:List PC:=[w2_15,w2_16,w2_17]
theorem w2_F7_ok:∀p∈w2_F7,PcOk Tryz.prog 155 p:=pcC w2_15_ok (pcC w2_16_ok (pcC w2_17_ok (pcs_nil)))
noncomputable def w2_F8:List PC:=[w2_18]
theorem w2_F8_ok:∀p∈w2_F8,PcOk Tryz.prog 156 p:=pcC w2_18_ok (pcs_nil)
noncomputable def w2_Orc:Orc:=orcAt 146 w2_F0<|orcAt 148 w2_F1<|orcAt 149 w2_F2<|orcAt 150 w2_F3<|orcAt 151 w2_F4<|orcAt 152 w2_F5<|orcAt 154 w2_F6<|orcAt 155 w2_F7<|orcAt 156 w2_F8<|noOrc
theorem w2_Orc_ok:OrcOk Tryz.prog w2_Orc:=orcAt_ok w2_F0_ok<|orcAt_ok w2_F1_ok<|orcAt_ok w2_F2_ok<|orcAt_ok w2_F3_ok<|orcAt_ok w2_F4_ok<|orcAt_ok w2_F5_ok<|orcAt_ok w2_F6_ok<|orcAt_ok w2_F7_ok<|orcAt_ok w2_F8_ok<|noOrc_ok _
set_option maxRecDepth 100000 in
theorem works02(W:World):Calls Tryz.prog 61 #[] W (λe W'=>e=.returned (.bool true)/\Gr W W'):=
 reckon (hk:=mapsH) mapsH_ok rfl mixed_ok fnT_ok w2_Orc_ok (d:=30) (f:=61) (args:=[]) (v:=.bool true) (by kernel_rfl) W
end Go.Proofs.YtifehdoghfnhoaaGreatDoor.Ev
namespace Go.Proofs.YtifehdoghfnhoaaGreatDoor.Ev
open Go.RowKit Go.Shelf
theorem tgt_const{P:Program}{f:Nat}{v:Value}(hc:∀(args:Array Value)(W:World),(callFunc f args).run P W=.ok (.enter f args) W)(h:∀W,Calls P f #[] W (λe W'=>e=.returned v/\Gr W W'))(H:Hp)(k:Nat):TgtOk P (.fn f) [] H k ⟨.lit v,[],k⟩:=by
 refine⟨Nat.le_refl _,λn hn=>absurd rfl hn,λ{N ρ W vs}hH hv hf=>⟨λW=>hc _ W,?_⟩⟩
 rw[show vs=[]from hv]
 refine(h W).mono (λe W' he=>?_)
 obtain⟨rfl,hg⟩:=he
 exact⟨v,rfl,ρ,Post.same hH hg,rfl⟩
def trueR(args:List AV)(_:Hp)(k:Nat):Option Rs:=match args with
 |[]=>some ⟨.lit (.bool true),[],k⟩
 |_=>none
def worksOrc:Orc:=λf=>bif Nat.beq f 60 then some trueR else bif Nat.beq f 61 then some trueR else bif Nat.beq f 62 then some trueR else none
theorem trueR_is{P:Program}{f:Nat}(h:∀H k,TgtOk P (.fn f) [] H k ⟨.lit (.bool true),[],k⟩):∀args H k r,trueR args H k=some r->TgtOk P (.fn f) args H k r:=λargs H k r hr=>by
 cases args with
 |nil=>cases hr;exact h H k
 |cons a l=>cases hr
theorem worksOrc_ok:OrcOk Tryz.prog worksOrc:=λf g hg=>by
 unfold worksOrc at hg
 cases h1:Nat.beq f 60 with
 |true=>
  rw[h1]at hg
  cases hg
  rw[Nat.eq_of_beq_eq_true h1]
  exact trueR_is (tgt_const Tryz.call60 works01)
 |false=>
  rw[h1,cond_false]at hg
  cases h2:Nat.beq f 61 with
  |true=>
   rw[h2]at hg
   cases hg
   rw[Nat.eq_of_beq_eq_true h2]
   exact trueR_is (tgt_const Tryz.call61 works02)
  |false=>
   rw[h2,cond_false]at hg
   cases h3:Nat.beq f 62 with
   |true=>
    rw[h3]at hg
    cases hg
    rw[Nat.eq_of_beq_eq_true h3]
    exact trueR_is (tgt_const Tryz.call62 (λW=>(works_any W).mono (λe W' he=>he)))
   |false=>rw[h3]at hg;cases hg
theorem works03(W:World):Calls Tryz.prog 36 #[] W (λe W'=>e=.returned (.bool true)/\Gr W W'):=
 reckon (hk:=noHook) (noHook_ok _) rfl mixed_ok fnT_ok worksOrc_ok (d:=3) (f:=36) (args:=[]) (v:=.bool true) (by kernel_rfl) W
end Go.Proofs.YtifehdoghfnhoaaGreatDoor.Ev
namespace Go.Proofs.YtifehdoghfnhoaaGreatDoor.Ev
open Go.RowKit Go.Shelf
noncomputable def w4_F0:List PC:=[w4_0,w4_1,w4_2,w4_3]
theorem w4_F0_ok:∀p∈w4_F0,PcOk Tryz.prog 65 p:=pcC w4_0_ok (pcC w4_1_ok (pcC w4_2_ok (pcC w4_3_ok (pcs_nil))))
noncomputable def w4_F1:List PC:=[w4_4,w4_5]
theorem w4_F1_ok:∀p∈w4_F1,PcOk Tryz.prog 12 p:=pcC w4_4_ok (pcC w4_5_ok (pcs_nil))
noncomputable def w4_F2:List PC:=[w4_6]
theorem w4_F2_ok:∀p∈w4_F2,PcOk Tryz.prog 7 p:=pcC w4_6_ok (pcs_nil)
noncomputable def w4_F3:List PC:=[w4_7]
theorem w4_F3_ok:∀p∈w4_F3,PcOk Tryz.prog 67 p:=pcC w4_7_ok (pcs_nil)
noncomputable def w4_F4:List PC:=[w4_8]
theorem w4_F4_ok:∀p∈w4_F4,PcOk Tryz.prog 24 p:=pcC w4_8_ok (pcs_nil)
noncomputable def w4_F5:List PC:=[w4_9]
theorem w4_F5_ok:∀p∈w4_F5,PcOk Tryz.prog 10 p:=pcC w4_9_ok (pcs_nil)
noncomputable def w4_F6:List PC:=[w4_10,w4_11,w4_12]
theorem w4_F6_ok:∀p∈w4_F6,PcOk Tryz.prog 68 p:=pcC w4_10_ok (pcC w4_11_ok (pcC w4_12_ok (pcs_nil)))
noncomputable def w4_F7:List PC:=[w4_13]
theorem w4_F7_ok:∀p∈w4_F7,PcOk Tryz.prog 22 p:=pcC w4_13_ok (pcs_nil)
noncomputable def w4_F8:List PC:=[w4_14]
theorem w4_F8_ok:∀p∈w4_F8,PcOk Tryz.prog 70 p:=pcC w4_14_ok (pcs_nil)
noncomputable def w4_F9:List PC:=[w4_15,w4_16]
theorem w4_F9_ok:∀p∈w4_F9,PcOk Tryz.prog 71 p:=pcC w4_15_ok (pcC w4_16_ok (pcs_nil))
noncomputable def w4_F10:List PC:=[w4_17,w4_18]
theorem w4_F10_ok:∀p∈w4_F10,PcOk Tryz.prog 72 p:=pcC w4_17_ok (pcC w4_18_ok (pcs_nil))
noncomputable def w4_F11:List PC:=[w4_19]
theorem w4_F11_ok:∀p∈w4_F11,PcOk Tryz.prog 73 p:=pcC w4_19_ok (pcs_nil)
noncomputable def w4_F12:List PC:=[w4_20]
theorem w4_F12_ok:∀p∈w4_F12,PcOk Tryz.prog 77 p:=pcC w4_20_ok (pcs_nil)
noncomputable def w4_Orc:Orc:=orcAt 65 w4_F0<|orcAt 12 w4_F1<|orcAt 7 w4_F2<|orcAt 67 w4_F3<|orcAt 24 w4_F4<|orcAt 10 w4_F5<|orcAt 68 w4_F6<|orcAt 22 w4_F7<|orcAt 70 w4_F8<|orcAt 71 w4_F9<|orcAt 72 w4_F10<|orcAt 73 w4_F11<|orcAt 77 w4_F12<|lgOrc
theorem w4_Orc_ok:OrcOk Tryz.prog w4_Orc:=orcAt_ok w4_F0_ok<|orcAt_ok w4_F1_ok<|orcAt_ok w4_F2_ok<|orcAt_ok w4_F3_ok<|orcAt_ok w4_F4_ok<|orcAt_ok w4_F5_ok<|orcAt_ok w4_F6_ok<|orcAt_ok w4_F7_ok<|orcAt_ok w4_F8_ok<|orcAt_ok w4_F9_ok<|orcAt_ok w4_F10_ok<|orcAt_ok w4_F11_ok<|orcAt_ok w4_F12_ok<|lgOrc_ok
set_option maxRecDepth 100000 in
theorem works04l(W:World):Calls Tryz.prog 37 #[] W (λe W'=>e=.returned (.bool true)/\Gr W W'):=
 reckon (hk:=mapsH) mapsH_ok rfl mixed_ok fnT_ok w4_Orc_ok (d:=30) (f:=37) (args:=[]) (v:=.bool true) (by kernel_rfl) W
end Go.Proofs.YtifehdoghfnhoaaGreatDoor.Ev
namespace Go.Proofs.YtifehdoghfnhoaaGreatDoor.Ev
open Go.RowKit Go.Shelf
set_option maxRecDepth 100000 in
theorem works05l(W:World):Calls Tryz.prog 38 #[] W (λe W'=>e=.returned (.bool true)/\Gr W W'):=
 reckon (hk:=mapsH) mapsH_ok rfl mixed_ok fnT_ok strOrc_ok (d:=30) (f:=38) (args:=[]) (v:=.bool true) (by kernel_rfl) W
end Go.Proofs.YtifehdoghfnhoaaGreatDoor.Ev
namespace Go.Proofs.YtifehdoghfnhoaaGreatDoor.Ev
open Go.RowKit Go.Shelf
def topOrc:Orc:=λf=>bif Nat.beq f 36 then some trueR else bif Nat.beq f 37 then some trueR else bif Nat.beq f 38 then some trueR else none
theorem topOrc_ok:OrcOk Tryz.prog topOrc:=
 orc_or (trueR_is (tgt_const Tryz.call36 works03))<|orc_or (trueR_is (tgt_const Tryz.call37 works04l))<|orc_or (trueR_is (tgt_const Tryz.call38 works05l))<|noOrc_ok _
theorem works05(W:World):Calls Tryz.prog 15 #[] W (λe W'=>e=.returned (.bool true)/\Gr W W'):=
 reckon (hk:=noHook) (noHook_ok _) rfl mixed_ok fnT_ok topOrc_ok (d:=4) (f:=15) (args:=[]) (v:=.bool true) (by kernel_rfl) W
end Go.Proofs.YtifehdoghfnhoaaGreatDoor.Ev
