/- Closed calls are reckoned by the kernel: functions of strings, by the contracts of the shelf. -/
import Derived.Test.YtifehdoghfnhoaaGreatDoorZEvW0
import Derived.Shelf.Strings.Count
import Derived.Shelf.Strings.OnBuilder
import Derived.Shelf.Strings.SlTrimAscii
namespace Go.Proofs.YtifehdoghfnhoaaGreatDoor.Ev
open Go.RowKit Go.Shelf
def lays138_ren:Ren:=⟨λ|138=>51|195=>124|218=>125|143=>126|219=>217|217=>304|225=>305|224=>306|267=>307|266=>361|314=>362|n=>n,λ|9=>9|3=>3|4=>4|5=>5|0=>0|46=>270|146=>426|51=>359|n=>n,λ|1=>0|n=>n⟩
theorem lays138:Lays.n138 Tryz.prog lays138_ren:={
 mixed:=by kernel_rfl
 f138:=Tryz.func51.trans (congrArg some (by kernel_rfl))
 f143:=Tryz.func126.trans (congrArg some (by kernel_rfl))
 f195:=Tryz.func124.trans (congrArg some (by kernel_rfl))
 f217:=Tryz.func304.trans (congrArg some (by kernel_rfl))
 f218:=Tryz.func125.trans (congrArg some (by kernel_rfl))
 f219:=Tryz.func217.trans (congrArg some (by kernel_rfl))
 f224:=Tryz.func306.trans (congrArg some (by kernel_rfl))
 f225:=Tryz.func305.trans (congrArg some (by kernel_rfl))
 f266:=Tryz.func361.trans (congrArg some (by kernel_rfl))
 f267:=Tryz.func307.trans (congrArg some (by kernel_rfl))
 f314:=Tryz.func362.trans (congrArg some (by kernel_rfl))
 t0:=Tryz.underlying0
 a0:=Tryz.isAgg0
 z0:=Tryz.sizeOf0
 v0:=Tryz.zeroValue0
 t3:=Tryz.underlying3
 a3:=Tryz.isAgg3
 z3:=Tryz.sizeOf3
 v3:=Tryz.zeroValue3
 t4:=Tryz.underlying4
 a4:=Tryz.isAgg4
 z4:=Tryz.sizeOf4
 v4:=Tryz.zeroValue4
 t5:=Tryz.underlying5
 a5:=Tryz.isAgg5
 z5:=Tryz.sizeOf5
 v5:=Tryz.zeroValue5
 t9:=Tryz.underlying9
 a9:=Tryz.isAgg9
 z9:=Tryz.sizeOf9
 v9:=Tryz.zeroValue9
 t46:=Tryz.underlying270
 a46:=Tryz.isAgg270
 z46:=Tryz.sizeOf270
 v46:=Tryz.zeroValue270
 t51:=Tryz.underlying359
 a51:=Tryz.isAgg359
 z51:=Tryz.sizeOf359
 v51:=Tryz.zeroValue359
 t146:=Tryz.underlying426
 a146:=Tryz.isAgg426
 z146:=Tryz.sizeOf426
 v146:=Tryz.zeroValue426
 g1:=by kernel_rfl}
def lays156_ren:Ren:=⟨λ|156=>49|165=>114|166=>115|169=>116|240=>211|241=>212|276=>299|277=>300|n=>n,λ|31=>22|9=>9|3=>3|4=>4|0=>0|20=>20|72=>169|76=>173|70=>167|37=>56|75=>172|127=>276|164=>362|5=>5|80=>175|n=>n,λ|n=>n⟩
theorem lays156:Lays.n156 Tryz.prog lays156_ren:={
 mixed:=by kernel_rfl
 f156:=Tryz.func49.trans (congrArg some (by kernel_rfl))
 f165:=Tryz.func114.trans (congrArg some (by kernel_rfl))
 f166:=Tryz.func115.trans (congrArg some (by kernel_rfl))
 f169:=Tryz.func116.trans (congrArg some (by kernel_rfl))
 f240:=Tryz.func211.trans (congrArg some (by kernel_rfl))
 f241:=Tryz.func212.trans (congrArg some (by kernel_rfl))
 f276:=Tryz.func299.trans (congrArg some (by kernel_rfl))
 f277:=Tryz.func300.trans (congrArg some (by kernel_rfl))
 t0:=Tryz.underlying0
 a0:=Tryz.isAgg0
 z0:=Tryz.sizeOf0
 v0:=Tryz.zeroValue0
 t3:=Tryz.underlying3
 a3:=Tryz.isAgg3
 z3:=Tryz.sizeOf3
 v3:=Tryz.zeroValue3
 t4:=Tryz.underlying4
 a4:=Tryz.isAgg4
 z4:=Tryz.sizeOf4
 v4:=Tryz.zeroValue4
 t9:=Tryz.underlying9
 a9:=Tryz.isAgg9
 z9:=Tryz.sizeOf9
 v9:=Tryz.zeroValue9
 t20:=Tryz.underlying20
 a20:=Tryz.isAgg20
 z20:=Tryz.sizeOf20
 v20:=Tryz.zeroValue20
 t31:=Tryz.underlying22
 a31:=Tryz.isAgg22
 z31:=Tryz.sizeOf22
 v31:=Tryz.zeroValue22
 t37:=Tryz.underlying56
 a37:=Tryz.isAgg56
 z37:=Tryz.sizeOf56
 v37:=Tryz.zeroValue56
 t70:=Tryz.underlying167
 a70:=Tryz.isAgg167
 z70:=Tryz.sizeOf167
 v70:=Tryz.zeroValue167
 t72:=Tryz.underlying169
 a72:=Tryz.isAgg169
 z72:=Tryz.sizeOf169
 v72:=Tryz.zeroValue169
 t75:=Tryz.underlying172
 a75:=Tryz.isAgg172
 z75:=Tryz.sizeOf172
 v75:=Tryz.zeroValue172
 t76:=Tryz.underlying173
 a76:=Tryz.isAgg173
 z76:=Tryz.sizeOf173
 v76:=Tryz.zeroValue173
 t127:=Tryz.underlying276
 a127:=Tryz.isAgg276
 z127:=Tryz.sizeOf276
 v127:=Tryz.zeroValue276
 t164:=Tryz.underlying362
 a164:=Tryz.isAgg362
 z164:=Tryz.sizeOf362
 v164:=Tryz.zeroValue362}
def lays160_ren:Ren:=⟨λ|160=>50|232=>118|231=>117|227=>119|234=>121|233=>120|236=>123|235=>122|228=>213|271=>216|151=>215|197=>214|120=>303|152=>302|260=>301|137=>359|119=>360|224=>306|225=>305|217=>304|266=>361|n=>n,λ|9=>9|4=>4|3=>3|5=>5|117=>179|116=>178|0=>0|124=>182|21=>21|105=>278|46=>270|119=>421|139=>424|138=>423|n=>n,λ|3=>1|4=>2|n=>n⟩
theorem lays160:Lays.n160 Tryz.prog lays160_ren:={
 mixed:=by kernel_rfl
 f119:=Tryz.func360.trans (congrArg some (by kernel_rfl))
 f120:=Tryz.func303.trans (congrArg some (by kernel_rfl))
 f137:=Tryz.func359.trans (congrArg some (by kernel_rfl))
 f151:=Tryz.func215.trans (congrArg some (by kernel_rfl))
 f152:=Tryz.func302.trans (congrArg some (by kernel_rfl))
 f160:=Tryz.func50.trans (congrArg some (by kernel_rfl))
 f197:=Tryz.func214.trans (congrArg some (by kernel_rfl))
 f217:=Tryz.func304.trans (congrArg some (by kernel_rfl))
 f224:=Tryz.func306.trans (congrArg some (by kernel_rfl))
 f225:=Tryz.func305.trans (congrArg some (by kernel_rfl))
 f227:=Tryz.func119.trans (congrArg some (by kernel_rfl))
 f228:=Tryz.func213.trans (congrArg some (by kernel_rfl))
 f231:=Tryz.func117.trans (congrArg some (by kernel_rfl))
 f232:=Tryz.func118.trans (congrArg some (by kernel_rfl))
 f233:=Tryz.func120.trans (congrArg some (by kernel_rfl))
 f234:=Tryz.func121.trans (congrArg some (by kernel_rfl))
 f235:=Tryz.func122.trans (congrArg some (by kernel_rfl))
 f236:=Tryz.func123.trans (congrArg some (by kernel_rfl))
 f260:=Tryz.func301.trans (congrArg some (by kernel_rfl))
 f266:=Tryz.func361.trans (congrArg some (by kernel_rfl))
 f271:=Tryz.func216.trans (congrArg some (by kernel_rfl))
 t0:=Tryz.underlying0
 a0:=Tryz.isAgg0
 z0:=Tryz.sizeOf0
 v0:=Tryz.zeroValue0
 t3:=Tryz.underlying3
 a3:=Tryz.isAgg3
 z3:=Tryz.sizeOf3
 v3:=Tryz.zeroValue3
 t4:=Tryz.underlying4
 a4:=Tryz.isAgg4
 z4:=Tryz.sizeOf4
 v4:=Tryz.zeroValue4
 t5:=Tryz.underlying5
 a5:=Tryz.isAgg5
 z5:=Tryz.sizeOf5
 v5:=Tryz.zeroValue5
 t9:=Tryz.underlying9
 a9:=Tryz.isAgg9
 z9:=Tryz.sizeOf9
 v9:=Tryz.zeroValue9
 t21:=Tryz.underlying21
 a21:=Tryz.isAgg21
 z21:=Tryz.sizeOf21
 v21:=Tryz.zeroValue21
 t46:=Tryz.underlying270
 a46:=Tryz.isAgg270
 z46:=Tryz.sizeOf270
 v46:=Tryz.zeroValue270
 t105:=Tryz.underlying278
 a105:=Tryz.isAgg278
 z105:=Tryz.sizeOf278
 v105:=Tryz.zeroValue278
 t116:=Tryz.underlying178
 a116:=Tryz.isAgg178
 z116:=Tryz.sizeOf178
 t117:=Tryz.underlying179
 a117:=Tryz.isAgg179
 z117:=Tryz.sizeOf179
 v117:=Tryz.zeroValue179
 t119:=Tryz.underlying421
 a119:=Tryz.isAgg421
 z119:=Tryz.sizeOf421
 t124:=Tryz.underlying182
 a124:=Tryz.isAgg182
 z124:=Tryz.sizeOf182
 v124:=Tryz.zeroValue182
 t138:=Tryz.underlying423
 a138:=Tryz.isAgg423
 z138:=Tryz.sizeOf423
 v138:=Tryz.zeroValue423
 t139:=Tryz.underlying424
 a139:=Tryz.isAgg424
 z139:=Tryz.sizeOf424
 v139:=Tryz.zeroValue424
 g3:=by kernel_rfl
 g4:=by kernel_rfl}
theorem extra156:Builder.Extra Tryz.prog lays156_ren where
 sizeBuilder:=by kernel_rfl
 liesBuilder:=by kernel_rfl
 t5:=Tryz.underlying5
 a5:=Tryz.isAgg5
 z5:=Tryz.sizeOf5
 v5:=Tryz.zeroValue5
 infoByte:=by kernel_rfl
 cellsByte:=by kernel_rfl
 sizeByte:=by kernel_rfl
 neB5:=by decide
def strsA:List AV->Option (List ByteArray)
 |[]=>some []
 | .lit (.string x)::l=>match strsA l with
   |some m=>some (x::m)
   |none=>none
 |_=>none
theorem strsA_get{ρ:Rho}:∀{l:List AV}{m:List ByteArray}{vs:List Value},strsA l=some m->RelL ρ l vs->m.length=l.length/\∀(j:Nat)x,m[j]? =some x->vs[j]? =some (.string x)
 |[],m,vs,h,hv=>by cases h;simp
 |a::l,m,vs,h,hv=>by
  unfold strsA at h
  split at h
  ·rename_i e;cases e
  ·rename_i x l' e
   cases e
   obtain⟨v,vs',h1,h2,rfl⟩:=hv
   split at h
   ·rename_i m' hm
    cases h
    have ih:=strsA_get hm h2
    refine⟨by simp[ih.1],λj y hy=>?_⟩
    cases j with
    |zero=>
     simp at hy
     subst hy
     rw[show v=_ from h1]
     rfl
    |succ j=>exact ih.2 j y (by simpa using hy)
   ·cases h
  ·cases h
def joinL(xs:List ByteArray)(sep:ByteArray):List UInt8:=Lib.join (xs.map (λx=>x.data.toList)) sep.data.toList
def joinO(args:List AV)(H:Hp)(k:Nat):Option Rs:=match args with
 |[.sl n o l _ _ _,.lit (.string sep)]=>match H n with
  |some (.cells cs _)=>match strsA ((cs.drop o).take l)with
   |some xs=>bif Nat.beq xs.length l&&(Nat.ble (joinL xs sep).length 140737488355328&&Nat.ble l 140737488355328)then some ⟨.lit (.string ⟨(joinL xs sep).toArray⟩),[],k⟩else none
   |none=>none
  |_=>none
 |_=>none
theorem joinO_ok:∀args H k r,joinO args H k=some r->TgtOk Tryz.prog (.fn 49) args H k r:=λargs H k r he=>by
 unfold joinO at he
 split at he
 ·rename_i n o l lb es ex sep
  split at he
  ·rename_i cs t hn
   split at he
   ·rename_i xs hxs
    cases hb:(Nat.beq xs.length l&&(Nat.ble (joinL xs sep).length 140737488355328&&Nat.ble l 140737488355328))with
    |false=>rw[hb]at he;cases he
    |true=>
     rw[hb]at he
     cases he
     simp only[Bool.and_eq_true]at hb
     obtain⟨h1,h2,h3⟩:=hb
     have h1:=Nat.eq_of_beq_eq_true h1
     subst h1
     have h2:=Nat.le_of_ble_eq_true h2
     have h3:=Nat.le_of_ble_eq_true h3
     refine⟨Nat.le_refl _,touch_nil _ _ _,λ{N ρ W vs}hH hv hf=>⟨λW=>Tryz.call49 _ W,?_⟩⟩
     obtain⟨v,vs',hv1,⟨v2,vs2,hv3,hv4,rfl⟩,rfl⟩:=hv
     obtain⟨b,κ,c,hr,rfl,hl,hc,hk,hm⟩:=hv1
     obtain rfl:=show v2=_ from hv3
     obtain rfl:=show vs2=[]from hv4
     obtain⟨b2,κ2,hr2,hN,arr,ha,hs,hcl,hrel⟩:=hH.obj n _ hn
     rw[hr]at hr2
     cases hr2
     obtain⟨g1,g2⟩:=strsA_get hxs ((hrel.drop o).take xs.length)
     have hcap:xs.length<=c:=by
      cases ex with
      |true=>simp at hc;omega
      |false=>simp at hc;omega
     refine(Any.strings_Join lays156 extra156 b o c xs sep W (λj x hj=>?_) ((Array.getElem?_eq_some_iff.1 ha).1) h3 hcap h2).mono (λe W' he=>?_)
     ·have hj2:=(List.getElem?_eq_some_iff.1 hj).1
      have:=g2 j x hj
      rw[List.getElem?_take_of_lt hj2,List.getElem?_drop]at this
      have hlen:=g1
      simp only[List.length_take,List.length_drop]at hlen
      rw[List.getElem?_take_of_lt (by omega)]at this
      rw[Lib.cell_of_heap ha]
      simpa using this
     ·exact⟨_,he.1,ρ,Post.same hH he.2,rfl⟩
   ·cases he
  ·cases he
 ·cases he
theorem info116:(Tryz.prog.info? (lays160_ren.t 116)).map (λi=>(i.zero,i.size))=some (some (.agg (Array.replicate 256 (.bool false))),256):=by kernel_rfl
def trimO(args:List AV)(_:Hp)(k:Nat):Option Rs:=match args with
 |[.lit (.string s),.lit (.string c)]=>bif Nat.ble s.size 9223372036854775807&&(Nat.ble c.size 100&&c.data.toList.all (λb=>decide (b.toNat<128)))then some ⟨.lit (.string ⟨(Lib.trimS s.data.toList c.data.toList).toArray⟩),[],k⟩else none
 |_=>none
theorem trimO_ok:∀args H k r,trimO args H k=some r->TgtOk Tryz.prog (.fn 50) args H k r:=λargs H k r he=>by
 unfold trimO at he
 split at he
 ·rename_i s c
  cases hb:(Nat.ble s.size 9223372036854775807&&(Nat.ble c.size 100&&c.data.toList.all (λb=>decide (b.toNat<128))))with
  |false=>rw[hb]at he;cases he
  |true=>
   rw[hb]at he
   cases he
   simp only[Bool.and_eq_true]at hb
   obtain⟨h1,h2,h3⟩:=hb
   have h1:=Nat.le_of_ble_eq_true h1
   have h2:=Nat.le_of_ble_eq_true h2
   refine⟨Nat.le_refl _,touch_nil _ _ _,λ{N ρ W vs}hH hv hf=>⟨λW=>Tryz.call50 _ W,?_⟩⟩
   obtain⟨v,vs',hv1,⟨v2,vs2,hv3,hv4,rfl⟩,rfl⟩:=hv
   obtain rfl:=show v=_ from hv1
   obtain rfl:=show v2=_ from hv3
   obtain rfl:=show vs2=[]from hv4
   refine(Any.strings_Trim_laid lays160 info116 s c W h1 (by omega) (ascii_of_all h3)).mono (λe W' he=>?_)
   exact⟨_,he.1,ρ,Post.same hH he.2,rfl⟩
 ·cases he
def countO(args:List AV)(_:Hp)(k:Nat):Option Rs:=match args with
 |[.lit (.string s),.lit (.string c)]=>match c.data.toList with
  |[b]=>some ⟨.lit (.int .i64 (.ofNat (Lib.countByte s.data.toList b))),[],k⟩
  |_=>none
 |_=>none
theorem countO_ok:∀args H k r,countO args H k=some r->TgtOk Tryz.prog (.fn 51) args H k r:=λargs H k r he=>by
 unfold countO at he
 split at he
 ·rename_i s c
  split at he
  ·rename_i b hb
   cases he
   refine⟨Nat.le_refl _,touch_nil _ _ _,λ{N ρ W vs}hH hv hf=>⟨λW=>Tryz.call51 _ W,?_⟩⟩
   obtain⟨v,vs',hv1,⟨v2,vs2,hv3,hv4,rfl⟩,rfl⟩:=hv
   obtain rfl:=show v=_ from hv1
   obtain rfl:=show v2=_ from hv3
   obtain rfl:=show vs2=[]from hv4
   have hc:c=⟨#[b]⟩:=by
    cases c with
    |mk d=>
     have:d.toList=[b]:=hb
     rw[show d=#[b]by rw[<-Array.toArray_toList (xs:=d),this]]
   subst hc
   refine(Any.strings_Count_one lays138 s b W).mono (λe W' he=>?_)
   obtain⟨h1,rfl⟩:=he
   exact⟨_,h1,ρ,Post.same hH (brefl _),rfl⟩
  ·cases he
 ·cases he
theorem lies_one{P:Program}{e:TypeId}(hc:P.cellsOf e≠0)(count:Nat)(hn:1<=count):liesAt P P.depth e count 0 e 1=true:=by
 have hd:P.depth=(2*(P.types.size+Made.depth)+1)+1:=rfl
 rw[hd]
 simp only[liesAt,Bool.or_eq_true]
 left
 rw[hd]
 simp[rowAt,hc,hn,sameLayout]
set_option maxHeartbeats 1000000 in
set_option maxRecDepth 100000 in
theorem copyCheck_fresh(b κ:Nat)(w:World)(hκ:2<=κ)(h0:w.cell? ⟨b,0,none⟩=some (.pointer none))(hsh:w.shape? b=some (169,κ))(hfz:w.frozen? ⟨b,0,none⟩=false):
 Calls Tryz.prog 211 #[.pointer (some ⟨b,0,none⟩)] w λe w'=>e=.returned (.tuple #[])/\w'=w.setCell ⟨b,0,none⟩ (.pointer (some ⟨b,0,none⟩)):=by
 obtain⟨j,hj,hjs⟩:=Option.map_eq_some_iff.1 extra156.sizeBuilder
 have hcs:Tryz.prog.cellsOf 169=2:=by kernel_rfl
 have t70:Tryz.prog.underlying 167=some (.pointer 169):=lays156.t70
 have t164:Tryz.prog.underlying 362=some .unsafePointer:=lays156.t164
 have hj:Tryz.prog.info? 169=some j:=hj
 go_enter Tryz.func211,Tryz.ntmps211
 go_wp2
 rw[Lib.run_to_unsafe w ⟨b,0,none⟩ t70 t164 hj (by rw[hjs];decide) hsh (show 0<κ by omega)]
 simp only[Result.andThen]
 rw[Oper.upon_value]
 go_wp2
 rw[run_callFunc_extern Tryz.func299 (by kernel_rfl) (by kernel_rfl) (by kernel_rfl) (e:=Extern.AbiNoEscape.same) (by kernel_rfl)]
 rw[Lib.run_noEscape]
 simp only[Result.andThen]
 rw[Oper.upon_value]
 go_wp2
 rw[Lib.run_from_unsafe w ⟨b,0,none⟩ t164 t70 hj hsh (lies_one (by rw[hcs];decide) _ (by rw[hcs];omega))]
 simp only[Result.andThen]
 rw[Oper.upon_value]
 go_wp2
 go_end0
 exact⟨rfl,rfl⟩
theorem lays240:Lays.n240 Tryz.prog lays156_ren:={mixed:=lays156.mixed,f240:=lays156.f240,f276:=lays156.f276,t0:=lays156.t0,a0:=lays156.a0,z0:=lays156.z0,v0:=lays156.v0,t4:=lays156.t4,a4:=lays156.a4,z4:=lays156.z4,v4:=lays156.v4,t9:=lays156.t9,a9:=lays156.a9,z9:=lays156.z9,v9:=lays156.v9,t20:=lays156.t20,a20:=lays156.a20,z20:=lays156.z20,v20:=lays156.v20,t70:=lays156.t70,a70:=lays156.a70,z70:=lays156.z70,v70:=lays156.v70,t72:=lays156.t72,a72:=lays156.a72,z72:=lays156.z72,v72:=lays156.v72,t164:=lays156.t164,a164:=lays156.a164,z164:=lays156.z164,v164:=lays156.v164}
theorem copyCheck_used(b:Nat)(w:World)(h0:w.cell? ⟨b,0,none⟩=some (.pointer (some ⟨b,0,none⟩))):
 Calls Tryz.prog 211 #[.pointer (some ⟨b,0,none⟩)] w λe w'=>e=.returned (.tuple #[])/\w'=w:=by
 exact Any.Builder_copyCheck_used lays240 extra156.toX72 b w h0
def builderT:Nat:=169
def ccO(args:List AV)(H:Hp)(k:Nat):Option Rs:=match args with
 |[.ptr n 0]=>match H n with
  |some (.cells (c0::c1::rest) t)=>bif Nat.beq t builderT then(match c0 with
   | .lit (.pointer none)=>some ⟨.lit (.tuple #[]),[(n,some (.cells (.ptr n 0::c1::rest) t))],k⟩
   | .ptr m 0=>bif Nat.beq m n then some ⟨.lit (.tuple #[]),[],k⟩else none
   |_=>none)else none
  |_=>none
 |_=>none
theorem ccO_ok:∀args H k r,ccO args H k=some r->TgtOk Tryz.prog (.fn 211) args H k r:=λargs H k r he=>by
 unfold ccO at he
 split at he
 ·rename_i n
  split at he
  ·rename_i c0 c1 rest t hn
   cases hb:Nat.beq t builderT with
   |false=>rw[hb]at he;cases he
   |true=>
    rw[hb,cond_true]at he
    have ht:=Nat.eq_of_beq_eq_true hb
    have hlive:H n≠none:=by rw[hn];simp
    split at he
    ·cases he
     refine⟨Nat.le_refl _,λm hm=>?_,λ{N ρ W vs}hH hv hf=>⟨λW=>Tryz.call211 _ W,?_⟩⟩
     ·rw[look_cons]at hm
      by_cases e:m=n
      ·exact .inl (e▸hlive)
      ·rw[if_neg e]at hm;exact absurd rfl hm
     ·obtain⟨v,vs',⟨b,κ,hr,rfl⟩,hv2,rfl⟩:=hv
      obtain rfl:=show vs'=[]from hv2
      obtain⟨b',κ',hr',hN,arr,ha,hs,hcl,hrel⟩:=hH.obj n _ hn
      rw[hr]at hr'
      cases hr'
      have hcl':=hcl
      simp only[List.length_cons]at hcl'
      have hrel0:=hrel
      obtain⟨v0,vs0,hv0,hvs0,hl⟩:=hrel
      obtain rfl:=show v0=_ from hv0
      have h0:arr[0]? =some (.pointer none):=by
       have:(arr.toList.take (rest.length+1+1))[0]? =some (.pointer none):=by
        have:=congrArg (λl=>l[0]?) hl
        simpa using this
       rw[List.getElem?_take_of_lt (by omega)]at this
       simpa using this
      subst ht
      refine(copyCheck_fresh b κ W (by omega) (by rw[Lib.cell_of_heap ha];exact h0) (by simp[World.shape?,ha,hs];rfl) (by simp[World.frozen?,ha])).mono (λe W' he=>?_)
      obtain⟨he,rfl⟩:=he
      refine⟨_,he,ρ,?_,rfl⟩
      have hset:(W.setCell ⟨b,0,none⟩ (.pointer (some ⟨b,0,none⟩))).heap[b]? =some (.cells (arr.setIfInBounds 0 (.pointer (some ⟨b,0,none⟩))) builderT (0,0)):=by
       simp[World.setCell,Array.getElem?_modify,ha]
      rw[app_cons,app_nil]
      refine Post.write hH hlive hr ?_ ⟨_,hset,by simpa using hs,by simpa using hcl,?_⟩
      ·exact⟨rfl,rfl,rfl,by simp[World.setCell],λj hj hne=>by
        simp only[World.setCell,Array.getElem?_modify]
        rw[if_neg (λe=>hne (by rw[e]))]⟩
      ·have h1:=hrel0.set 0 (a:=.ptr n 0) (v:=.pointer (some ⟨b,0,none⟩)) ⟨b,κ,hr,rfl⟩
       simpa[List.take_set]using h1
    ·cases hb2:Nat.beq _ n with
     |false=>rw[hb2]at he;cases he
     |true=>
      rw[hb2]at he
      cases he
      obtain rfl:=Nat.eq_of_beq_eq_true hb2
      refine⟨Nat.le_refl _,touch_nil _ _ _,λ{N ρ W vs}hH hv hf=>⟨λW=>Tryz.call211 _ W,?_⟩⟩
      obtain⟨v,vs',⟨b,κ,hr,rfl⟩,hv2,rfl⟩:=hv
      obtain rfl:=show vs'=[]from hv2
      obtain⟨b',κ',hr',hN,arr,ha,hs,hcl,hrel⟩:=hH.obj _ _ hn
      rw[hr]at hr'
      cases hr'
      obtain⟨v0,vs0,⟨b2,κ2,hr2,rfl⟩,hvs0,hl⟩:=hrel
      rw[hr]at hr2
      cases hr2
      have h0:arr[0]? =some (.pointer (some ⟨b,0,none⟩)):=by
       have:(arr.toList.take (rest.length+1+1))[0]? =some (.pointer (some ⟨b,0,none⟩)):=by
        have:=congrArg (λl=>l[0]?) hl
        simpa using this
       rw[List.getElem?_take_of_lt (by omega)]at this
       simpa using this
      refine(copyCheck_used b W (by rw[Lib.cell_of_heap ha];exact h0)).mono (λe W' he=>?_)
      obtain⟨he,rfl⟩:=he
      exact⟨_,he,ρ,Post.same hH (brefl _),rfl⟩
    ·cases he
  ·cases he
 ·cases he
def strOrc:Orc:=λf=>bif Nat.beq f 49 then some joinO else bif Nat.beq f 50 then some trimO else bif Nat.beq f 51 then some countO else bif Nat.beq f 211 then some ccO else none
theorem orc_or{P:Program}{f:Nat}{o:List AV->Hp->Nat->Option Rs}{r:Orc}(h:∀args H k x,o args H k=some x->TgtOk P (.fn f) args H k x)(hr:OrcOk P r):OrcOk P (λg=>bif Nat.beq g f then some o else r g):=λg x hx=>by
 simp only at hx
 cases hb:Nat.beq g f with
 |true=>rw[hb]at hx;cases hx;rw[Nat.eq_of_beq_eq_true hb];exact h
 |false=>rw[hb]at hx;exact hr g x hx
theorem strOrc_ok:OrcOk Tryz.prog strOrc:=orc_or joinO_ok<|orc_or trimO_ok<|orc_or countO_ok<|orc_or ccO_ok<|noOrc_ok _
end Go.Proofs.YtifehdoghfnhoaaGreatDoor.Ev
