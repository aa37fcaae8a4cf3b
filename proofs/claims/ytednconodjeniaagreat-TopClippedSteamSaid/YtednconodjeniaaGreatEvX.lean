/- crossbandtop.works03 returns true, in every world. -/
import Derived.Test.YtednconodjeniaaGreatEvW
import Derived.Test.YtednconodjeniaaGreatCWorks
import Derived.Test.YtednconodjeniaaGreatTSWorks
namespace Go.Proofs.YtednconodjeniaaGreat.Ev
open Go.RowKit Go.Shelf
theorem tgt_const{P:Program}{f:Nat}{v:Value}(hc:∀(args:Array Value)(W:World),(callFunc f args).run P W=.ok (.enter f args) W)(h:∀W,Calls P f #[] W (λe W'=>e=.returned v/\Gr W W'))(H:Hp)(k:Nat):TgtOk P (.fn f) [] H k ⟨.lit v,[],k⟩:=by
 refine⟨Nat.le_refl _,λn hn=>absurd rfl hn,λ{N ρ W vs}hH hv hf=>⟨λW=>hc _ W,?_⟩⟩
 rw[show vs=[]from hv]
 refine(h W).mono (λe W' he=>?_)
 obtain⟨rfl,hg⟩:=he
 exact⟨v,rfl,ρ,Post.same hH hg,rfl⟩
def trueR(args:List AV)(_:Hp)(k:Nat):Option Rs:=match args with
 |[]=>some ⟨.lit (.bool true),[],k⟩
 |_=>none
def worksOrc:Orc:=λf=>bif Nat.beq f 23 then some trueR else bif Nat.beq f 24 then some trueR else bif Nat.beq f 25 then some trueR else none
theorem trueR_is{P:Program}{f:Nat}(h:∀H k,TgtOk P (.fn f) [] H k ⟨.lit (.bool true),[],k⟩):∀args H k r,trueR args H k=some r->TgtOk P (.fn f) args H k r:=λargs H k r hr=>by
 cases args with
 |nil=>cases hr;exact h H k
 |cons a l=>cases hr
theorem worksOrc_ok:OrcOk Tryz.prog worksOrc:=λf g hg=>by
 unfold worksOrc at hg
 cases h1:Nat.beq f 23 with
 |true=>
  rw[h1]at hg
  cases hg
  rw[Nat.eq_of_beq_eq_true h1]
  exact trueR_is (tgt_const Tryz.call23 works01)
 |false=>
  rw[h1,cond_false]at hg
  cases h2:Nat.beq f 24 with
  |true=>
   rw[h2]at hg
   cases hg
   rw[Nat.eq_of_beq_eq_true h2]
   exact trueR_is (tgt_const Tryz.call24 (λW=>(C.works_any W).mono (λe W' he=>he)))
  |false=>
   rw[h2,cond_false]at hg
   cases h3:Nat.beq f 25 with
   |true=>
    rw[h3]at hg
    cases hg
    rw[Nat.eq_of_beq_eq_true h3]
    exact trueR_is (tgt_const Tryz.call25 (λW=>(works_any W).mono (λe W' he=>he)))
   |false=>rw[h3]at hg;cases hg
theorem works03(W:World):Calls Tryz.prog 6 #[] W (λe W'=>e=.returned (.bool true)/\Gr W W'):=
 reckon (hk:=noHook) (noHook_ok _) rfl mixed_ok fnT_ok worksOrc_ok (d:=3) (f:=6) (args:=[]) (v:=.bool true) (by kernel_rfl) W
end Go.Proofs.YtednconodjeniaaGreat.Ev
