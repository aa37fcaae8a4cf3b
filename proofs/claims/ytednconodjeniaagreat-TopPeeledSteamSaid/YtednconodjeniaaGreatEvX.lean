/- crossbandtop.works03 returns true, in every world. -/
import Derived.Test.YtednconodjeniaaGreatEvWa
import Derived.Test.YtednconodjeniaaGreatEvWb
import Derived.Test.YtednconodjeniaaGreatEvWc
import Derived.Test.YtednconodjeniaaGreatEvWd
import Derived.Test.YtednconodjeniaaGreatEvW
import Derived.Test.YtednconodjeniaaGreatTSWorks
namespace Go.Proofs.YtednconodjeniaaGreat.Ev
open Go.RowKit Go.Shelf
noncomputable def w2_F68:List PC:=[w2_0,w2_1,w2_2,w2_3]
theorem w2_F68_ok:∀p∈w2_F68,PcOk Tryz.prog 68 p:=pcs_cons w2_0_ok (pcs_cons w2_1_ok (pcs_cons w2_2_ok (pcs_cons w2_3_ok (pcs_nil))))
noncomputable def w2_F8:List PC:=[w2_4]
theorem w2_F8_ok:∀p∈w2_F8,PcOk Tryz.prog 8 p:=pcs_cons w2_4_ok (pcs_nil)
noncomputable def w2_F9:List PC:=[w2_5]
theorem w2_F9_ok:∀p∈w2_F9,PcOk Tryz.prog 9 p:=pcs_cons w2_5_ok (pcs_nil)
noncomputable def w2_F70:List PC:=[w2_6]
theorem w2_F70_ok:∀p∈w2_F70,PcOk Tryz.prog 70 p:=pcs_cons w2_6_ok (pcs_nil)
noncomputable def w2_F71:List PC:=[w2_7,w2_8,w2_9,w2_10]
theorem w2_F71_ok:∀p∈w2_F71,PcOk Tryz.prog 71 p:=pcs_cons w2_7_ok (pcs_cons w2_8_ok (pcs_cons w2_9_ok (pcs_cons w2_10_ok (pcs_nil))))
noncomputable def w2_F14:List PC:=[w2_11,w2_12,w2_13]
theorem w2_F14_ok:∀p∈w2_F14,PcOk Tryz.prog 14 p:=pcs_cons w2_11_ok (pcs_cons w2_12_ok (pcs_cons w2_13_ok (pcs_nil)))
noncomputable def w2_F73:List PC:=[w2_14]
theorem w2_F73_ok:∀p∈w2_F73,PcOk Tryz.prog 73 p:=pcs_cons w2_14_ok (pcs_nil)
noncomputable def w2_F74:List PC:=[w2_15,w2_16,w2_17]
theorem w2_F74_ok:∀p∈w2_F74,PcOk Tryz.prog 74 p:=pcs_cons w2_15_ok (pcs_cons w2_16_ok (pcs_cons w2_17_ok (pcs_nil)))
noncomputable def w2_F75:List PC:=[w2_18]
theorem w2_F75_ok:∀p∈w2_F75,PcOk Tryz.prog 75 p:=pcs_cons w2_18_ok (pcs_nil)
noncomputable def w2_Orc:Orc:=orcAt 68 w2_F68<|orcAt 8 w2_F8<|orcAt 9 w2_F9<|orcAt 70 w2_F70<|orcAt 71 w2_F71<|orcAt 14 w2_F14<|orcAt 73 w2_F73<|orcAt 74 w2_F74<|orcAt 75 w2_F75<|noOrc
theorem w2_Orc_ok:OrcOk Tryz.prog w2_Orc:=orcAt_ok w2_F68_ok<|orcAt_ok w2_F8_ok<|orcAt_ok w2_F9_ok<|orcAt_ok w2_F70_ok<|orcAt_ok w2_F71_ok<|orcAt_ok w2_F14_ok<|orcAt_ok w2_F73_ok<|orcAt_ok w2_F74_ok<|orcAt_ok w2_F75_ok<|noOrc_ok _
set_option maxRecDepth 100000 in
theorem works02(W:World):Calls Tryz.prog 24 #[] W (λe W'=>e=.returned (.bool true)/\Gr W W'):=
 reckon (hk:=mapsH) mapsH_ok rfl mixed_ok fnT_ok w2_Orc_ok (d:=30) (f:=24) (args:=[]) (v:=.bool true) (by kernel_rfl) W
end Go.Proofs.YtednconodjeniaaGreat.Ev
namespace Go.Proofs.YtednconodjeniaaGreat.Ev
open Go.RowKit Go.Shelf
theorem tgt_const{P:Program}{f:Nat}{v:Value}(hc:∀(args:Array Value)(W:World),(callFunc f args).run P W=.ok (.enter f args) W)(h:∀W,Calls P f #[] W (λe W'=>e=.returned v/\Gr W W'))(H:Hp)(k:Nat):TgtOk P (.fn f) [] H k ⟨.lit v,[],k⟩:=by
 refine⟨Nat.le_refl _,λn hn=>absurd rfl hn,λ{N ρ W vs}hH hv hf=>⟨λW=>hc _ W,?_⟩⟩
 rw[show vs=[]from hv]
 refine(h W).mono (λe W' he=>?_)
 obtain⟨rfl,hg⟩:=he
 exact⟨v,rfl,ρ,Post.same hH hg,rfl⟩
def trueR(args:List AV)(_:Hp)(k:Nat):Option Rs:=match args with
 |[]=>some ⟨.lit (.bool true),[],k⟩
 |_=>none
def worksOrc:Orc:=λf=>bif Nat.beq f 23 then some trueR else bif Nat.beq f 24 then some trueR else bif Nat.beq f 25 then some trueR else none
theorem trueR_is{P:Program}{f:Nat}(h:∀H k,TgtOk P (.fn f) [] H k ⟨.lit (.bool true),[],k⟩):∀args H k r,trueR args H k=some r->TgtOk P (.fn f) args H k r:=λargs H k r hr=>by
 cases args with
 |nil=>cases hr;exact h H k
 |cons a l=>cases hr
theorem worksOrc_ok:OrcOk Tryz.prog worksOrc:=λf g hg=>by
 unfold worksOrc at hg
 cases h1:Nat.beq f 23 with
 |true=>
  rw[h1]at hg
  cases hg
  rw[Nat.eq_of_beq_eq_true h1]
  exact trueR_is (tgt_const Tryz.call23 works01)
 |false=>
  rw[h1,cond_false]at hg
  cases h2:Nat.beq f 24 with
  |true=>
   rw[h2]at hg
   cases hg
   rw[Nat.eq_of_beq_eq_true h2]
   exact trueR_is (tgt_const Tryz.call24 works02)
  |false=>
   rw[h2,cond_false]at hg
   cases h3:Nat.beq f 25 with
   |true=>
    rw[h3]at hg
    cases hg
    rw[Nat.eq_of_beq_eq_true h3]
    exact trueR_is (tgt_const Tryz.call25 (λW=>(works_any W).mono (λe W' he=>he)))
   |false=>rw[h3]at hg;cases hg
theorem works03(W:World):Calls Tryz.prog 6 #[] W (λe W'=>e=.returned (.bool true)/\Gr W W'):=
 reckon (hk:=noHook) (noHook_ok _) rfl mixed_ok fnT_ok worksOrc_ok (d:=3) (f:=6) (args:=[]) (v:=.bool true) (by kernel_rfl) W
end Go.Proofs.YtednconodjeniaaGreat.Ev
