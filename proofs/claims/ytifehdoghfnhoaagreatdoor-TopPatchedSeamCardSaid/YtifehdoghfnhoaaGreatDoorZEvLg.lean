/- Oracle: all patches that can lie, collected, at a bench that is known. -/
import Derived.Test.YtifehdoghfnhoaaGreatDoorZCTable
import Derived.Test.YtifehdoghfnhoaaGreatDoorZApp
import Derived.Laws.StructEq
import Derived.Test.YtifehdoghfnhoaaGreatDoorZCNew
import Derived.RangeFuncNested
import Derived.RangeFuncBound
import Derived.RangeFuncCalls
import Derived.RangeFuncLeaves
import Derived.Shelf.RegionOpen
import Derived.OwnWalkIn
import Derived.TacticsInMore
import Derived.LoopNIn
import Derived.LoopIn
import Derived.RangeFuncBox
import Derived.Maps.AppendAt
import Derived.Test.YtifehdoghfnhoaaGreatDoorZEvZ
namespace Go.Proofs.YtifehdoghfnhoaaGreatDoor.Pa
open Go.RowKit Go.Shelf Go.Proofs.YtifehdoghfnhoaaGreatDoor.C
set_option maxHeartbeats 400000 in
theorem withinC(B1 B2:Nat)(lo hi x:Int)(w:World)(h1:w.cell? ⟨B1,0,none⟩=some (.int .i64 lo))(h2:w.cell? ⟨B2,0,none⟩=some (.int .i64 hi)):
 Calls Tryz.prog 112 #[.int .i64 x,.pointer (some ⟨B1,0,none⟩),.pointer (some ⟨B2,0,none⟩)] w λe w'=>e=.returned (.bool (outR lo hi x))/\Below w.heap.size w w':=by
 have H:=Lib.hid (outR_eq lo hi x)
 by_cases c1:x<lo
 ·go_enter Tryz.func112,Tryz.ntmps112
  go_wp2
  go_ret
  exact⟨rtB (by rw[H.out];simp[outB,c1]),Below.refl _ _⟩
 ·by_cases c2:hi<x
  ·go_enter Tryz.func112,Tryz.ntmps112
   go_wp2
   go_ret
   exact⟨rtB (by rw[H.out];simp[outB,c2]),Below.refl _ _⟩
  ·go_enter Tryz.func112,Tryz.ntmps112
   go_wp2
   go_ret
   exact⟨rtB (by rw[H.out];simp[outB,c1,c2]),Below.refl _ _⟩
set_option maxHeartbeats 400000 in
theorem within_any(lo hi:Int)(A:Option Addr)(n c:Nat)(xs:List Int)(w:World)(hs:Sl 1 encI w w.heap.size A n c xs):
 Calls Tryz.prog 46 #[.int .i64 lo,.int .i64 hi,.slice A n c] w λe w'=>e=.returned (.bool (!(xs.any (outR lo hi))))/\Below w.heap.size w w':=by
 have Hs:=Lib.hid hs
 clear hs
 go_enter Tryz.func46,Tryz.ntmps46
 go_wp2_with (go_at_call 53;refine(containsI 112 #[.pointer (some ⟨w.heap.size,0,none⟩),.pointer (some ⟨w.heap.size+1,0,none⟩)] (enters_of Tryz.func112 (by kernel_rfl) rfl) (outR lo hi) A n c xs _ (Hs.out.later ?_) ?_).mono ?_)
 ·exact((Below.refl _ _).alloc (Nat.le_refl _) _).alloc (by simp) _
 ·intro x W _ hb
  exact withinC _ _ lo hi x W ((hb.cell (p:=⟨w.heap.size,0,none⟩) (by simp;omega)).trans (by go_simp)) ((hb.cell (p:=⟨w.heap.size+1,0,none⟩) (by simp)).trans (by go_simp))
 ·rintro e w1⟨rfl,hb1⟩
  have Hb1:=Lib.hid hb1
  clear hb1
  go_wp2
  go_ret
  exact⟨rfl,Below.later (((Below.refl _ _).alloc (Nat.le_refl _) _).alloc (by simp) _) Hb1.out⟩
theorem within_one(lo hi x:Int)(b:Nat)(w:World)(hb:b<w.heap.size)(h:w.cell? ⟨b,0,none⟩=some (.int .i64 x)):
 Calls Tryz.prog 46 #[.int .i64 lo,.int .i64 hi,.slice (some ⟨b,0,none⟩) 1 1] w λe w'=>e=.returned (.bool (inR lo hi x))/\Below w.heap.size w w':=
 (within_any lo hi _ _ _ [x] w (Sl.one hb h)).mono λ_ _⟨he,hw⟩=>⟨by rw[he,inR_any],hw⟩
structure Pc where
 t:Nat
 l:Nat
 r:Nat
 c:Nat
def encPc(p:Pc):List Value:=[.int .i64 (p.t:Nat),.int .i64 (p.l:Nat),.int .i64 (p.r:Nat),.int .i64 (p.c:Nat)]
def pieceN(n:Nat):Pc:=⟨Nat.div n 216,Nat.mod (Nat.div n 36) 6,Nat.succ (Nat.mod (Nat.div n 6) 6),Nat.succ (Nat.mod n 6)⟩
def figB(F:Nat->Nat)(p:Pc):Bool:=Nat.blt (F (7*p.t+(p.l+p.c))+F (7*(p.t+p.r)+p.l)) (F (7*(p.t+p.r)+(p.l+p.c))+F (7*p.t+p.l))
def liesE(rn cn most:Nat)(F:Nat->Nat)(nz:Bool)(p:Pc):Nat:=
 bif Nat.ble 1 p.r&&Nat.ble p.r rn&&(Nat.ble 1 p.c&&Nat.ble p.c cn)&&(Nat.ble (p.t+p.r) rn&&Nat.ble (p.l+p.c) cn)then
  bif nz&&figB F p then 20 else bif Nat.blt most (p.r*p.c)then 4 else 0
 else 3
def piecesF(e:Pc->Nat):Nat->List Pc
 |0=>[]
 |n+1=>piecesF e n++bif Nat.beq (e (pieceN n)) 0 then [pieceN n]else []
theorem piecesF_len(e:Pc->Nat):∀n,(piecesF e n).length<=n
 |0=>Nat.le_refl _
 |n+1=>by
  have:=piecesF_len e n
  rw[piecesF,List.length_append]
  cases Nat.beq (e (pieceN n)) 0<;>simp<;>omega
end Go.Proofs.YtifehdoghfnhoaaGreatDoor.Pa
namespace Go.Proofs.YtifehdoghfnhoaaGreatDoor.Pa
open Go.RowKit Go.Shelf Go.Proofs.YtifehdoghfnhoaaGreatDoor.C
theorem run_equalIn_ints{P:Program}(w:World)(d:Nat)(t e:TypeId)(n:Nat)(ht:P.underlying t=some (.array n e))(he:P.underlying e=some (.int .i64))(hsz:∀w,(sizeOf e).run P w=.ok 1 w)
 (xs ys:Array Value)(f g:Nat->Int)(hx:∀i,i<n->xs[i]? =some (.int .i64 (f i))) (hy:∀i,i<n->ys[i]? =some (.int .i64 (g i))):
 (Op.equalIn (d+2) t (.agg xs) (.agg ys)).run P w=.ok ((List.range n).all λi=>f i==g i) w:=by
 rw[List.range_eq_range',Op.equalIn]
 simp only[Sem.run_bind,run_underlying ht,Result.andThen_ok,hsz,Std.Legacy.Range.forIn_eq_forIn_range',Std.Legacy.Range.size,Nat.sub_zero,Nat.add_sub_cancel,Nat.div_one]
 have hl:∀i∈List.range' 0 n 1,i<n:=λi hi=>by simpa using(List.mem_range'_1.1 hi).2
 generalize List.range' 0 n 1=l at hl ⊢
 induction l with
 |nil=>simp
 |cons i l ih=>
  have hi:i<n:=hl i (by simp)
  have px:(part e xs (i*1)).run P w=.ok (.int .i64 (f i)) w:=by
   simp[part,isAgg,run_underlying he,hx i hi]
  have py:(part e ys (i*1)).run P w=.ok (.int .i64 (g i)) w:=by
   simp[part,isAgg,run_underlying he,hy i hi]
  have pe:=run_equalIn_int w d e .i64 .i64 (f i) (g i) he
  simp only[List.forIn_cons,Sem.run_bind,px,py,pe,Result.andThen_ok,List.all_cons]
  cases hb:(f i==g i)
  ·simp
  ·simp only[Bool.not_true,Bool.false_eq_true,if_false,Sem.run_pure,Result.andThen_ok,Bool.true_and]
   exact ih λj hj=>hl j (by simp[hj])
def figA(F:Nat->Nat):Array Value:=((List.range 49).map λi=>Value.int .i64 ((F i:Nat):Int)).toArray
theorem figA_get(F:Nat->Nat){i:Nat}(hi:i<49):(figA F)[i]? =some (.int .i64 ((F i:Nat):Int)):=by
 simp[figA,hi]
def nzF(F:Nat->Nat):Bool:=!((List.range 49).all λi=>Nat.beq (F i) 0)
def zeroS:Array Value:=Array.replicate 49 (.int .i64 0)
theorem und_sums:Tryz.prog.underlying 86=some (.array 49 3):=by kernel_rfl
theorem neq_sums(F:Nat->Nat)(w:World):(binOp .neq 86 (.agg (figA F)) (.agg zeroS)).run Tryz.prog w=.ok (.bool (nzF F)) w:=by
 rw[run_neq_struct,run_equalIn_ints w 9998 86 3 49 und_sums Tryz.underlying3 (λw=>Tryz.sizeOf3 w) (figA F) zeroS (λi=>((F i:Nat):Int)) (λ_=>0) (λi hi=>figA_get F hi) (λi hi=>by simp[zeroS,hi])]
 have h:∀n:Nat,(((n:Nat):Int)==0)=Nat.beq n 0:=λn=>by
  cases n with
  |zero=>rfl
  |succ n=>
   show _=false
   rw[beq_eq_false_iff_ne]
   omega
 simp only[Result.andThen_ok,nzF,h]
theorem load_sums{T:Nat}{F:Nat->Nat}{W:World}(h:∀i,i<49->W.cell? ⟨T,3+i,none⟩=some (.int .i64 (F i:Nat))):(Instr.loadAt 86 (.pointer (some ⟨T,3,none⟩))).run Tryz.prog W=.ok (.agg (figA F)) W:=by
 have hl:=run_loadCells_list (P:=Tryz.prog) (w:=W) ⟨T,3,none⟩ ((List.range 49).map λi=>Value.int .i64 ((F i:Nat):Int)) (λj v hj=>by
  obtain⟨hj1,hj2⟩:=List.getElem?_eq_some_iff.1 hj
  simp only[List.length_map,List.length_range]at hj1
  simp only[List.getElem_map,List.getElem_range]at hj2
  rw[<-hj2,Addr.add_lit]
  exact h j hj1)
 rw[List.length_map,List.length_range]at hl
 simp only[Instr.loadAt,Instr.sureAddr,loadVar,Sem.run_bind,Sem.run_pure,Result.andThen_ok,Tryz.isAgg86,Tryz.sizeOf86,if_true,hl]
 rfl
structure Bn(W:World)(T:Nat)(rb ro rn rc:Nat)(rs:ByteArray)(most:Nat)(F:Nat->Nat):Prop where
 lt:T<W.heap.size
 c0:W.cell? ⟨T,0,none⟩=some (.slice (some ⟨rb,ro,none⟩) rn rc)
 c1:W.cell? ⟨T,1,none⟩=some (.int .i64 (most:Nat))
 fig:∀i,i<49->W.cell? ⟨T,3+i,none⟩=some (.int .i64 (F i:Nat))
 rlt:rb<W.heap.size
 row:W.cell? ⟨rb,ro,none⟩=some (.string rs)
 n1:1<=rn
 n6:rn<=6
 m6:rs.size<=6
 most:most<=1000
 F36:∀i,i<49->F i<=1000
theorem Bn.later{W W':World}{T rb ro rn rc:Nat}{rs:ByteArray}{most:Nat}{F:Nat->Nat}(h:Bn W T rb ro rn rc rs most F)(hb:Below W.heap.size W W'):Bn W' T rb ro rn rc rs most F:=
 ⟨Nat.lt_of_lt_of_le h.lt hb.size,(hb.cell (p:=⟨T,0,none⟩) h.lt).trans h.c0,(hb.cell (p:=⟨T,1,none⟩) h.lt).trans h.c1,λi hi=>(hb.cell (p:=⟨T,3+i,none⟩) h.lt).trans (h.fig i hi),Nat.lt_of_lt_of_le h.rlt hb.size,(hb.cell (p:=⟨rb,ro,none⟩) h.rlt).trans h.row,h.n1,h.n6,h.m6,h.most,h.F36⟩
set_option maxHeartbeats 1000000 in
theorem above_ok{T rb ro rn rc:Nat}{rs:ByteArray}{most:Nat}{F:Nat->Nat}(r c:Nat)(hr:r<=6)(hc:c<=6)(w:World)(h:Bn w T rb ro rn rc rs most F):
 Calls Tryz.prog 58 #[.pointer (some ⟨T,0,none⟩),.int .i64 (r:Nat),.int .i64 (c:Nat)] w λe w'=>e=.returned (.int .i64 (F (7*r+c):Nat))/\Below w.heap.size w w':=by
 have hf:=h.fig (7*r+c) (by omega)
 have hlt:=h.lt
 have i1:IntKind.i64.wrap ((r:Int)*7)=7*(r:Int):=by rw[IntKind.wrap_i64];omega
 have i2:IntKind.i64.wrap (7*(r:Int)+(c:Int))=((7*r+c:Nat):Int):=by rw[IntKind.wrap_i64];omega
 obtain⟨i,hi⟩:∃i,7*r+c=i:=⟨_,rfl⟩
 have i3:i<49:=by omega
 obtain⟨f,hff⟩:∃f,F i=f:=⟨_,rfl⟩
 rw[hi]at hf i2 ⊢
 rw[hff]at hf ⊢
 have hi':=Lib.hid hi
 clear hi hff h hr hc
 go_enter Tryz.func58,Tryz.ntmps58
 go_wp2
 go_ret
 exact⟨rfl,brefl _⟩
end Go.Proofs.YtifehdoghfnhoaaGreatDoor.Pa
namespace Go.Proofs.YtifehdoghfnhoaaGreatDoor.Pa
open Go.RowKit Go.Shelf Go.Proofs.YtifehdoghfnhoaaGreatDoor.C
def okR(rn cn:Nat)(p:Pc):Bool:=Nat.ble 1 p.r&&Nat.ble p.r rn&&(Nat.ble 1 p.c&&Nat.ble p.c cn)&&(Nat.ble (p.t+p.r) rn&&Nat.ble (p.l+p.c) cn)
theorem ble_iff(a b:Nat):Nat.ble a b=true↔a<=b:=⟨Nat.le_of_ble_eq_true,Nat.ble_eq_true_of_le⟩
theorem okR_iff(rn cn:Nat)(p:Pc):okR rn cn p=true↔1<=p.r/\p.r<=rn/\1<=p.c/\p.c<=cn/\p.t+p.r<=rn/\p.l+p.c<=cn:=by
 simp only[okR,Bool.and_eq_true,ble_iff]
 omega
theorem liesE_no{rn cn most:Nat}{F:Nat->Nat}{nz:Bool}{p:Pc}(h:¬okR rn cn p=true):liesE rn cn most F nz p=3:=by
 unfold liesE
 rw[show(Nat.ble 1 p.r&&Nat.ble p.r rn&&(Nat.ble 1 p.c&&Nat.ble p.c cn)&&(Nat.ble (p.t+p.r) rn&&Nat.ble (p.l+p.c) cn))=false from by rw[Bool.eq_false_iff];exact h]
 rfl
theorem liesE_ok{rn cn most:Nat}{F:Nat->Nat}{nz:Bool}{p:Pc}(h:okR rn cn p=true):liesE rn cn most F nz p=bif nz&&figB F p then 20 else bif Nat.blt most (p.r*p.c)then 4 else 0:=by
 unfold liesE
 rw[show(Nat.ble 1 p.r&&Nat.ble p.r rn&&(Nat.ble 1 p.c&&Nat.ble p.c cn)&&(Nat.ble (p.t+p.r) rn&&Nat.ble (p.l+p.c) cn))=true from h]
 rfl
structure LW(w W:World)(T rb ro rn rc:Nat)(rs:ByteArray)(most:Nat)(F:Nat->Nat)(t l r c:Nat):Prop where
 bel:Below w.heap.size w W
 bn:Bn W T rb ro rn rc rs most F
 b:Blk W w.heap.size 49 #[.int .i64 (t:Nat),.int .i64 (l:Nat),.int .i64 (r:Nat),.int .i64 (c:Nat)]
section
variable{w W W':World}{T rb ro rn rc:Nat}{rs:ByteArray}{most:Nat}{F:Nat->Nat}{t l r c:Nat}
theorem LW.later(h:LW w W T rb ro rn rc rs most F t l r c)(hb:Below W.heap.size W W'):LW w W' T rb ro rn rc rs most F t l r c:=⟨Below.later h.bel hb,h.bn.later hb,h.b.later hb⟩
theorem LW.cells(h:LW w W T rb ro rn rc rs most F t l r c):W.cell? ⟨T,0,none⟩=some (.slice (some ⟨rb,ro,none⟩) rn rc)/\W.cell? ⟨T,1,none⟩=some (.int .i64 (most:Nat))/\W.cell? ⟨rb,ro,none⟩=some (.string rs)/\
 W.cell? ⟨w.heap.size,0,none⟩=some (.int .i64 (t:Nat))/\W.cell? ⟨w.heap.size,1,none⟩=some (.int .i64 (l:Nat))/\W.cell? ⟨w.heap.size,2,none⟩=some (.int .i64 (r:Nat))/\W.cell? ⟨w.heap.size,3,none⟩=some (.int .i64 (c:Nat))/\
 T<W.heap.size/\w.heap.size<W.heap.size/\rb<W.heap.size:=by
 exact⟨h.bn.c0,h.bn.c1,h.bn.row,h.b.cell 0,h.b.cell 1,h.b.cell 2,h.b.cell 3,h.bn.lt,h.b.lt,h.bn.rlt⟩
end
set_option maxRecDepth 100000 in
set_option maxHeartbeats 8000000 in
theorem lies_cn{T rb ro rn rc:Nat}{rs:ByteArray}{most:Nat}{F:Nat->Nat}(cn:Nat)(hcn:rs.size=cn)(t l r c:Nat)(ht:t<=6)(hl:l<=6)(hr:r<=6)(hc:c<=6)(w:World)(h:Bn w T rb ro rn rc rs most F):
 Calls Tryz.prog 32 #[.pointer (some ⟨T,0,none⟩),.agg #[.int .i64 (t:Nat),.int .i64 (l:Nat),.int .i64 (r:Nat),.int .i64 (c:Nat)]] w λe w'=>e=.returned (.int .i64 (liesE rn cn most F (nzF F) ⟨t,l,r,c⟩:Nat))/\Below w.heap.size w w':=by
 have hB:=balloc (brefl w) (.cells #[.int .i64 (t:Nat),.int .i64 (l:Nat),.int .i64 (r:Nat),.int .i64 (c:Nat)] 49)
 have HK0:=Lib.hid (show LW w (w.alloc (.cells #[.int .i64 (t:Nat),.int .i64 (l:Nat),.int .i64 (r:Nat),.int .i64 (c:Nat)] 49)) T rb ro rn rc rs most F t l r c from⟨hB,h.later hB,Blk.new w _ _⟩)
 have hn1:=h.n1
 have hn0:0<rn:=h.n1
 have hn6:=h.n6
 have hm6:=h.m6
 have Hcn:=Lib.hid hcn
 rw[hcn]at hm6
 clear hcn
 have hmo:=h.most
 have HF:=Lib.hid h.F36
 have Hw:=Lib.hid (λ(lo hi x:Int)(V:World)=>within_one lo hi x V.heap.size (V.alloc (.cells #[.int .i64 x] 3)) (by simp) ((Blk.new V 3 #[.int .i64 x]).cell 0))
 have Hgo:=Lib.hid (λV:World=>balloc (brefl V))
 clear hB h
 obtain⟨d0,d1,d2,d3,d4,d5,d6,d7,d8,d9⟩:=HK0.out.cells
 go_enter Tryz.func32,Tryz.ntmps32
 go_wp2_with fail
 clear d0 d1 d2 d3 d4 d5 d6 d7 d8 d9
 refine dag 16 (by kernel_rfl) (by kernel_rfl) (.is ?_::.is ?_::.is ?_::.is ?_::.is ?_::.is ?_::.is ?_::.is ?_::.is ?_::.is ?_::.is ?_::.is ?_::.is ?_::.is ?_::.is ?_::.is ?_::[]) rfl ?sta ?oba
 case sta=>simp[Spec.ok]
 case oba=>
 intro env V hG
 have HK1:=Lib.hid (HK0.out.later hG)
 obtain⟨d0,d1,d2,d3,d4,d5,d6,d7,d8,d9⟩:=HK1.out.cells
 iterate 16 (refine obI ?_ ?_;unfold dsA;go_simp;(try go_bits);(first|(refine⟨brefl _,?_⟩;rfl)|rfl);intro K hK;go_simp;refine hK _ ?_;clear hK K)
 refine obN (λhx=>?_)
 clear hx hG HK0
 clear d2
 rw[Hcn.out]
 go_wp2_with fail
 by_cases g1:1<=r/\r<=rn
 case neg=>
  have q:=(inR_no 1 ((rn:Nat):Int) ((r:Nat):Int)).2 (by omega)
  have hw:=Hw.out 1 ((rn:Nat):Int) ((r:Nat):Int) V
  rw[q]at hw
  refine hw.mono ?_
  rintro e v1⟨rfl,hb⟩
  have HB:=Lib.hid (HK1.out.later (Below.later (Hgo.out V _) hb)).bel
  have HE:=Lib.hid (liesE_no (rn:=rn) (cn:=cn) (most:=most) (F:=F) (nz:=nzF F) (p:=⟨t,l,r,c⟩) (by rw[okR_iff];simp only;omega))
  clear hw q hb Hw Hgo HF HK1 d0 d1 d3 d4 d5 d6 d7 d8 d9
  go_wp2
  go_ret
  exact⟨by rw[HE.out];rfl,HB.out⟩
 case pos=>
 have q:=(inR_iff 1 ((rn:Nat):Int) ((r:Nat):Int)).2 (by omega)
 have hw:=Hw.out 1 ((rn:Nat):Int) ((r:Nat):Int) V
 rw[q]at hw
 refine hw.mono ?_
 rintro e v1⟨rfl,hb⟩
 have HK2:=Lib.hid (HK1.out.later (Below.later (Hgo.out V _) hb))
 clear hw q hb HK1 d0 d1 d3 d4 d5 d6 d7 d8 d9
 obtain⟨d0,d1,-,d3,d4,d5,d6,d7,d8,d9⟩:=HK2.out.cells
 go_wp2_with fail
 by_cases g2:1<=c/\c<=cn
 case neg=>
  have q:=(inR_no 1 ((cn:Nat):Int) ((c:Nat):Int)).2 (by omega)
  have hw:=Hw.out 1 ((cn:Nat):Int) ((c:Nat):Int) v1
  rw[q]at hw
  refine hw.mono ?_
  rintro e v2⟨rfl,hb⟩
  have HB:=Lib.hid (HK2.out.later (Below.later (Hgo.out v1 _) hb)).bel
  have HE:=Lib.hid (liesE_no (rn:=rn) (cn:=cn) (most:=most) (F:=F) (nz:=nzF F) (p:=⟨t,l,r,c⟩) (by rw[okR_iff];simp only;omega))
  clear hw q hb Hw Hgo HF HK2 d0 d1 d3 d4 d5 d6 d7 d8 d9
  go_wp2
  go_ret
  exact⟨by rw[HE.out];rfl,HB.out⟩
 case pos=>
 have q:=(inR_iff 1 ((cn:Nat):Int) ((c:Nat):Int)).2 (by omega)
 have hw:=Hw.out 1 ((cn:Nat):Int) ((c:Nat):Int) v1
 rw[q]at hw
 refine hw.mono ?_
 rintro e v2⟨rfl,hb⟩
 have HK3:=Lib.hid (HK2.out.later (Below.later (Hgo.out v1 _) hb))
 clear hw q hb HK2 d0 d1 d3 d4 d5 d6 d7 d8 d9
 obtain⟨d0,d1,-,d3,d4,d5,d6,d7,d8,d9⟩:=HK3.out.cells
 have i1:IntKind.i64.wrap (((rn:Nat):Int)-((r:Nat):Int))=((rn:Nat):Int)-((r:Nat):Int):=by rw[IntKind.wrap_i64];omega
 have i2:IntKind.i64.wrap (((cn:Nat):Int)-((c:Nat):Int))=((cn:Nat):Int)-((c:Nat):Int):=by rw[IntKind.wrap_i64];omega
 go_wp2_with fail
 by_cases g3:t+r<=rn
 case neg=>
  have q:=(inR_no 0 (((rn:Nat):Int)-((r:Nat):Int)) ((t:Nat):Int)).2 (by omega)
  have hw:=Hw.out 0 (((rn:Nat):Int)-((r:Nat):Int)) ((t:Nat):Int) v2
  rw[q]at hw
  refine hw.mono ?_
  rintro e v3⟨rfl,hb⟩
  have HB:=Lib.hid (HK3.out.later (Below.later (Hgo.out v2 _) hb)).bel
  have HE:=Lib.hid (liesE_no (rn:=rn) (cn:=cn) (most:=most) (F:=F) (nz:=nzF F) (p:=⟨t,l,r,c⟩) (by rw[okR_iff];simp only;omega))
  clear hw q hb Hw Hgo HF HK3 d0 d1 d3 d4 d5 d6 d7 d8 d9
  go_wp2
  go_ret
  exact⟨by rw[HE.out];rfl,HB.out⟩
 case pos=>
 have q:=(inR_iff 0 (((rn:Nat):Int)-((r:Nat):Int)) ((t:Nat):Int)).2 (by omega)
 have hw:=Hw.out 0 (((rn:Nat):Int)-((r:Nat):Int)) ((t:Nat):Int) v2
 rw[q]at hw
 refine hw.mono ?_
 rintro e v3⟨rfl,hb⟩
 have HK4:=Lib.hid (HK3.out.later (Below.later (Hgo.out v2 _) hb))
 clear hw q hb HK3 d0 d1 d3 d4 d5 d6 d7 d8 d9
 obtain⟨d0,d1,-,d3,d4,d5,d6,d7,d8,d9⟩:=HK4.out.cells
 go_wp2_with fail
 by_cases g4:l+c<=cn
 case neg=>
  have q:=(inR_no 0 (((cn:Nat):Int)-((c:Nat):Int)) ((l:Nat):Int)).2 (by omega)
  have hw:=Hw.out 0 (((cn:Nat):Int)-((c:Nat):Int)) ((l:Nat):Int) v3
  rw[q]at hw
  refine hw.mono ?_
  rintro e v4⟨rfl,hb⟩
  have HB:=Lib.hid (HK4.out.later (Below.later (Hgo.out v3 _) hb)).bel
  have HE:=Lib.hid (liesE_no (rn:=rn) (cn:=cn) (most:=most) (F:=F) (nz:=nzF F) (p:=⟨t,l,r,c⟩) (by rw[okR_iff];simp only;omega))
  clear hw q hb Hw Hgo HF HK4 d0 d1 d3 d4 d5 d6 d7 d8 d9
  go_wp2
  go_ret
  exact⟨by rw[HE.out];rfl,HB.out⟩
 case pos=>
 have q:=(inR_iff 0 (((cn:Nat):Int)-((c:Nat):Int)) ((l:Nat):Int)).2 (by omega)
 have hw:=Hw.out 0 (((cn:Nat):Int)-((c:Nat):Int)) ((l:Nat):Int) v3
 rw[q]at hw
 refine hw.mono ?_
 rintro e v4⟨rfl,hb⟩
 have HK5:=Lib.hid (HK4.out.later (Below.later (Hgo.out v3 _) hb))
 clear hw q hb HK4 d0 d1 d3 d4 d5 d6 d7 d8 d9
 obtain⟨d0,d1,-,d3,d4,d5,d6,d7,d8,d9⟩:=HK5.out.cells
 clear i1 i2
 obtain⟨bo,hbo⟩:∃bo,t+r=bo:=⟨_,rfl⟩
 obtain⟨ri,hri⟩:∃ri,l+c=ri:=⟨_,rfl⟩
 have i3:IntKind.i64.wrap (((t:Nat):Int)+((r:Nat):Int))=(bo:Int):=by rw[IntKind.wrap_i64];omega
 have i4:IntKind.i64.wrap (((l:Nat):Int)+((c:Nat):Int))=(ri:Int):=by rw[IntKind.wrap_i64];omega
 have b6:bo<=6:=by omega
 have r6:ri<=6:=by omega
 have Hbo:=Lib.hid hbo
 have Hri:=Lib.hid hri
 clear hbo hri
 go_wp2_with fail
 have HE:=Lib.hid (liesE_ok (rn:=rn) (cn:=cn) (most:=most) (F:=F) (nz:=nzF F) (p:=⟨t,l,r,c⟩) (by rw[okR_iff];simp only;omega))
 clear d0 d1 d3 d4 d5 d6 d7 d8 d9
 refine dag 12 (by kernel_rfl) (by kernel_rfl) (.is ?_::.is ?_::.is ?_::.is ?_::.is ?_::.is ?_::.is ?_::.is ?_::.is ?_::.is ?_::.is ?_::.is ?_::[]) rfl ?stb ?obb
 case stb=>simp[Spec.ok]
 case obb=>
 intro env5 V5 hG
 have HK6:=Lib.hid (HK5.out.later hG)
 obtain⟨d0,d1,-,d3,d4,d5,d6,d7,d8,d9⟩:=HK6.out.cells
 iterate 12 (refine obI ?_ ?_;unfold dsA;go_simp;(try go_bits);(first|(refine⟨brefl _,?_⟩;rfl)|rfl);intro K hK;go_simp;refine hK _ ?_;clear hK K)
 refine obN (λhx=>?_)
 clear hx i3 i4 HK5 hG
 obtain⟨A,hA⟩:∃A,F (7*bo+ri)=A:=⟨_,rfl⟩
 obtain⟨B,hB⟩:∃B,F (7*t+ri)=B:=⟨_,rfl⟩
 obtain⟨C,hC⟩:∃C,F (7*bo+l)=C:=⟨_,rfl⟩
 obtain⟨D,hD⟩:∃D,F (7*t+l)=D:=⟨_,rfl⟩
 have l6:l<=6:=by omega
 have a1:A<=1000:=by rw[<-hA];exact HF.out _ (by omega)
 have a2:B<=1000:=by rw[<-hB];exact HF.out _ (by omega)
 have a3:C<=1000:=by rw[<-hC];exact HF.out _ (by omega)
 have a4:D<=1000:=by rw[<-hD];exact HF.out _ (by omega)
 have HA:=Lib.hid (λV(h:LW w V T rb ro rn rc rs most F t l r c)=>above_ok bo ri b6 r6 V h.bn)
 have HB:=Lib.hid (λV(h:LW w V T rb ro rn rc rs most F t l r c)=>above_ok t ri ht r6 V h.bn)
 have HC:=Lib.hid (λV(h:LW w V T rb ro rn rc rs most F t l r c)=>above_ok bo l b6 l6 V h.bn)
 have HD:=Lib.hid (λV(h:LW w V T rb ro rn rc rs most F t l r c)=>above_ok t l ht l6 V h.bn)
 rw[hA]at HA
 rw[hB]at HB
 rw[hC]at HC
 rw[hD]at HD
 have HFg:=Lib.hid (show figB F ⟨t,l,r,c⟩=Nat.blt (B+C) (A+D)by rw[<-hA,<-hB,<-hC,<-hD,<-Hbo.out,<-Hri.out];rfl)
 clear hA hB hC hD
 have w1:IntKind.i64.wrap ((A:Int)-(B:Int))=(A:Int)-(B:Int):=by rw[IntKind.wrap_i64];omega
 have w2:IntKind.i64.wrap ((A:Int)-(B:Int)-(C:Int))=(A:Int)-(B:Int)-(C:Int):=by rw[IntKind.wrap_i64];omega
 have w3:IntKind.i64.wrap ((A:Int)-(B:Int)-(C:Int)+(D:Int))=(A:Int)-(B:Int)-(C:Int)+(D:Int):=by rw[IntKind.wrap_i64];omega
 have hgd:Tryz.prog.eqGuardType Tryz.prog.depth 86=false:=by kernel_rfl
 obtain⟨z,hz⟩:∃z,nzF F=z:=⟨_,rfl⟩
 have HE2:=Lib.hid (show liesE rn cn most F (nzF F) ⟨t,l,r,c⟩=bif z&&figB F ⟨t,l,r,c⟩then 20 else bif Nat.blt most (r*c)then 4 else 0 by rw[HE.out,hz])
 have HN:=Lib.hid (λV=>neq_sums F V)
 rw[hz]at HN
 clear hz HE
 go_wp2_with fail
 clear d0 d1 d3 d4 d5 d6 d7 d8 d9
 cases z
 case false=>
  refine dag 32 (by kernel_rfl) (by kernel_rfl) (.is ?_::.is ?_::.is ?_::.is ?_::.is ?_::.is ?_::.is ?_::.is ?_::.is ?_::.is ?_::.is ?_::.is ?_::.is ?_::.is ?_::.is ?_::.is ?_::.is ?_::.is ?_::.is ?_::.is ?_::.is ?_::.is ?_::.is ?_::.is ?_::.is ?_::.is ?_::.is ?_::.is ?_::.is ?_::.is ?_::.is ?_::.is ?_::[]) rfl ?stc ?obc
  case stc=>simp[Spec.ok]
  case obc=>
  intro env6 V6 hG
  have HK7:=Lib.hid (HK6.out.later hG)
  obtain⟨d0,d1,-,d3,d4,d5,d6,d7,d8,d9⟩:=HK7.out.cells
  iterate 3 (refine obI ?_ ?_;unfold dsA;go_simp;(try go_bits);(first|(refine⟨brefl _,?_⟩;rfl)|rfl);intro K hK;go_simp;refine hK _ ?_;clear hK K)
  refine obI (v:=.agg (figA F)) ?_ ?_
  ·rw[if_pos (by rfl)]
   show doesUpon Tryz.prog _ (Sem.run Tryz.prog (do pure (.value (<-Instr.loadAt 86 (.pointer (some ⟨T,3,none⟩))))) V6)
   rw[Sem.run_bind,load_sums HK7.out.bn.fig]
   exact⟨brefl _,rfl⟩
  intro K hK
  go_simp
  refine hK _ ?_
  clear hK K
  refine obI (v:=.agg zeroS) ?_ ?_
  ·unfold dsA
   go_simp
   exact⟨brefl _,rfl⟩
  intro K hK
  go_simp
  refine hK _ ?_
  clear hK K
  refine obI (v:=.bool false) ?_ ?_
  ·rw[if_pos (by rfl)]
   show doesUpon Tryz.prog _ (Sem.run Tryz.prog (do pure (.value (<-(do eqGuard .neq 86 (.tmp 72) (.tmp 73) (.agg (figA F)) (.agg zeroS);binOp .neq 86 (.agg (figA F)) (.agg zeroS))))) V6)
   rw[Sem.run_bind,Sem.run_bind,run_eqGuard_agg _ _ _ _ _ _ _ hgd,Result.andThen_ok,HN.out]
   exact⟨brefl _,rfl⟩
  intro K hK
  go_simp
  refine hK _ ?_
  clear hK K
  iterate 26 (refine obI ?_ ?_;unfold dsA;go_simp;(try go_bits);(first|(refine⟨brefl _,?_⟩;rfl)|rfl);intro K hK;go_simp;refine hK _ ?_;clear hK K)
  refine obN (λhx=>?_)
  clear hx hG HK6 HA HB HC HD w1 w2 w3 hgd HN
  have HEE:=Lib.hid (show liesE rn cn most F (nzF F) ⟨t,l,r,c⟩=bif Nat.blt most (r*c)then 4 else 0 from HE2.out)
  clear HE2 HFg
  obtain⟨m,hm⟩:∃m,r*c=m:=⟨_,rfl⟩
  have m1:m<=36:=by rw[<-hm];exact Nat.mul_le_mul hr hc
  have i5:IntKind.i64.wrap ((r:Int)*(c:Int))=(m:Int):=by rw[IntKind.wrap_i64,<-Int.natCast_mul,hm];omega
  have Hm:=Lib.hid hm
  clear hm
  by_cases go:most<m
  case pos=>
   have HR:=Lib.hid (show liesE rn cn most F (nzF F) ⟨t,l,r,c⟩=4 by rw[HEE.out,show Nat.blt most (r*c)=true from by rw[Hm.out];exact Nat.ble_eq_true_of_le go];rfl)
   have dm:decide (most<m)=true:=decide_eq_true go
   clear Hm go HEE
   go_wp2_with fail
   clear d0 d1 d3 d4 d5 d6 d7 d8 d9
   refine dag 11 (by kernel_rfl) (by kernel_rfl) (.is ?_::.is ?_::.is ?_::.is ?_::.is ?_::.is ?_::.is ?_::.is ?_::.is ?_::.is ?_::.is ?_::[]) rfl ?sq1 ?oq1
   case sq1=>simp[Spec.ok]
   case oq1=>
   intro env7 V7 hG
   have HK8:=Lib.hid (HK7.out.later hG)
   obtain⟨d0,d1,-,d3,d4,d5,d6,d7,d8,d9⟩:=HK8.out.cells
   iterate 11 (refine obI ?_ ?_;unfold dsA;go_simp;(try go_bits);(first|(refine⟨brefl _,?_⟩;rfl)|rfl);intro K hK;go_simp;refine hK _ ?_;clear hK K)
   refine obN (λhx=>?_)
   clear hx
   have HB:=Lib.hid HK8.out.bel
   go_wp2
   go_ret
   exact⟨by rw[HR.out];rfl,HB.out⟩
  case neg=>
   have HR:=Lib.hid (show liesE rn cn most F (nzF F) ⟨t,l,r,c⟩=0 by rw[HEE.out,show Nat.blt most (r*c)=false from by rw[Hm.out,Bool.eq_false_iff];exactλh=>go (Nat.le_of_ble_eq_true h)];rfl)
   have dm:decide (most<m)=false:=decide_eq_false go
   clear Hm go HEE
   go_wp2_with fail
   clear d0 d1 d3 d4 d5 d6 d7 d8 d9
   refine dag 11 (by kernel_rfl) (by kernel_rfl) (.is ?_::.is ?_::.is ?_::.is ?_::.is ?_::.is ?_::.is ?_::.is ?_::.is ?_::.is ?_::.is ?_::[]) rfl ?sq2 ?oq2
   case sq2=>simp[Spec.ok]
   case oq2=>
   intro env7 V7 hG
   have HK8:=Lib.hid (HK7.out.later hG)
   obtain⟨d0,d1,-,d3,d4,d5,d6,d7,d8,d9⟩:=HK8.out.cells
   iterate 11 (refine obI ?_ ?_;unfold dsA;go_simp;(try go_bits);(first|(refine⟨brefl _,?_⟩;rfl)|rfl);intro K hK;go_simp;refine hK _ ?_;clear hK K)
   refine obN (λhx=>?_)
   clear hx
   have HB:=Lib.hid HK8.out.bel
   go_wp2
   go_ret
   exact⟨by rw[HR.out];rfl,HB.out⟩
 case true=>
  by_cases hf:B+C<A+D
  case pos=>
   have HR:=Lib.hid (show liesE rn cn most F (nzF F) ⟨t,l,r,c⟩=20 by rw[HE2.out,HFg.out,show Nat.blt (B+C) (A+D)=true from Nat.ble_eq_true_of_le hf];rfl)
   have dg:decide ((A:Int)-B-C+D>0)=true:=decide_eq_true (by omega)
   clear HE2 HFg hf
   refine dag 32 (by kernel_rfl) (by kernel_rfl) (.is ?_::.is ?_::.is ?_::.is ?_::.is ?_::.is ?_::.is ?_::.is ?_::.is ?_::.is ?_::.is ?_::.is ?_::.is ?_::.is ?_::.is ?_::.is ?_::.is ?_::.is ?_::.is ?_::.is ?_::.is ?_::.is ?_::.is ?_::.is ?_::.is ?_::.is ?_::.is ?_::.is ?_::.is ?_::.is ?_::.is ?_::.is ?_::[]) rfl ?sq3 ?oq3
   case sq3=>simp[Spec.ok]
   case oq3=>
   intro env6 V6 hG
   have HK7:=Lib.hid (HK6.out.later hG)
   obtain⟨d0,d1,-,d3,d4,d5,d6,d7,d8,d9⟩:=HK7.out.cells
   iterate 3 (refine obI ?_ ?_;unfold dsA;go_simp;(try go_bits);(first|(refine⟨brefl _,?_⟩;rfl)|rfl);intro K hK;go_simp;refine hK _ ?_;clear hK K)
   refine obI (v:=.agg (figA F)) ?_ ?_
   ·rw[if_pos (by rfl)]
    show doesUpon Tryz.prog _ (Sem.run Tryz.prog (do pure (.value (<-Instr.loadAt 86 (.pointer (some ⟨T,3,none⟩))))) V6)
    rw[Sem.run_bind,load_sums HK7.out.bn.fig]
    exact⟨brefl _,rfl⟩
   intro K hK
   go_simp
   refine hK _ ?_
   clear hK K
   refine obI (v:=.agg zeroS) ?_ ?_
   ·unfold dsA
    go_simp
    exact⟨brefl _,rfl⟩
   intro K hK
   go_simp
   refine hK _ ?_
   clear hK K
   refine obI (v:=.bool true) ?_ ?_
   ·rw[if_pos (by rfl)]
    show doesUpon Tryz.prog _ (Sem.run Tryz.prog (do pure (.value (<-(do eqGuard .neq 86 (.tmp 72) (.tmp 73) (.agg (figA F)) (.agg zeroS);binOp .neq 86 (.agg (figA F)) (.agg zeroS))))) V6)
    rw[Sem.run_bind,Sem.run_bind,run_eqGuard_agg _ _ _ _ _ _ _ hgd,Result.andThen_ok,HN.out]
    exact⟨brefl _,rfl⟩
   intro K hK
   go_simp
   refine hK _ ?_
   clear hK K
   iterate 4 (refine obI ?_ ?_;unfold dsA;go_simp;(try go_bits);(first|(refine⟨brefl _,?_⟩;rfl)|rfl);intro K hK;go_simp;refine hK _ ?_;clear hK K)
   refine obI ?_ ?_
   ·unfold dsA
    go_simp
    refine(HA.out V6 HK7.out).mono ?_
    rintro e w1⟨rfl,hb1⟩
    (refine⟨?_,hb1⟩;rfl)
   intro K hK
   go_simp
   refine hK _ ?_
   clear hK K
   iterate 4 (refine obI ?_ ?_;unfold dsA;go_simp;(try go_bits);(first|(refine⟨brefl _,?_⟩;rfl)|rfl);intro K hK;go_simp;refine hK _ ?_;clear hK K)
   refine obI ?_ ?_
   ·unfold dsA
    go_simp
    refine(HB.out V6 HK7.out).mono ?_
    rintro e w1⟨rfl,hb1⟩
    (refine⟨?_,hb1⟩;rfl)
   intro K hK
   go_simp
   refine hK _ ?_
   clear hK K
   iterate 5 (refine obI ?_ ?_;unfold dsA;go_simp;(try go_bits);(first|(refine⟨brefl _,?_⟩;rfl)|rfl);intro K hK;go_simp;refine hK _ ?_;clear hK K)
   refine obI ?_ ?_
   ·unfold dsA
    go_simp
    refine(HC.out V6 HK7.out).mono ?_
    rintro e w1⟨rfl,hb1⟩
    (refine⟨?_,hb1⟩;rfl)
   intro K hK
   go_simp
   refine hK _ ?_
   clear hK K
   iterate 6 (refine obI ?_ ?_;unfold dsA;go_simp;(try go_bits);(first|(refine⟨brefl _,?_⟩;rfl)|rfl);intro K hK;go_simp;refine hK _ ?_;clear hK K)
   refine obI ?_ ?_
   ·unfold dsA
    go_simp
    refine(HD.out V6 HK7.out).mono ?_
    rintro e w1⟨rfl,hb1⟩
    (refine⟨?_,hb1⟩;rfl)
   intro K hK
   go_simp
   refine hK _ ?_
   clear hK K
   iterate 3 (refine obI ?_ ?_;unfold dsA;go_simp;(try go_bits);(first|(refine⟨brefl _,?_⟩;rfl)|rfl);intro K hK;go_simp;refine hK _ ?_;clear hK K)
   refine obN (λhx=>?_)
   clear hx hG HK6 HA HB HC HD w1 w2 w3 hgd HN
   have HB:=Lib.hid HK7.out.bel
   go_wp2
   go_ret
   exact⟨by rw[HR.out];rfl,HB.out⟩
  case neg=>
   have HEE:=Lib.hid (show liesE rn cn most F (nzF F) ⟨t,l,r,c⟩=bif Nat.blt most (r*c)then 4 else 0 by rw[HE2.out,HFg.out,show Nat.blt (B+C) (A+D)=false from by rw[Bool.eq_false_iff];exactλh=>hf (Nat.le_of_ble_eq_true h)];rfl)
   have dg:decide ((A:Int)-B-C+D>0)=false:=decide_eq_false (by omega)
   clear HE2 HFg hf
   refine dag 32 (by kernel_rfl) (by kernel_rfl) (.is ?_::.is ?_::.is ?_::.is ?_::.is ?_::.is ?_::.is ?_::.is ?_::.is ?_::.is ?_::.is ?_::.is ?_::.is ?_::.is ?_::.is ?_::.is ?_::.is ?_::.is ?_::.is ?_::.is ?_::.is ?_::.is ?_::.is ?_::.is ?_::.is ?_::.is ?_::.is ?_::.is ?_::.is ?_::.is ?_::.is ?_::.is ?_::[]) rfl ?sq4 ?oq4
   case sq4=>simp[Spec.ok]
   case oq4=>
   intro env6 V6 hG
   have HK7:=Lib.hid (HK6.out.later hG)
   obtain⟨d0,d1,-,d3,d4,d5,d6,d7,d8,d9⟩:=HK7.out.cells
   iterate 3 (refine obI ?_ ?_;unfold dsA;go_simp;(try go_bits);(first|(refine⟨brefl _,?_⟩;rfl)|rfl);intro K hK;go_simp;refine hK _ ?_;clear hK K)
   refine obI (v:=.agg (figA F)) ?_ ?_
   ·rw[if_pos (by rfl)]
    show doesUpon Tryz.prog _ (Sem.run Tryz.prog (do pure (.value (<-Instr.loadAt 86 (.pointer (some ⟨T,3,none⟩))))) V6)
    rw[Sem.run_bind,load_sums HK7.out.bn.fig]
    exact⟨brefl _,rfl⟩
   intro K hK
   go_simp
   refine hK _ ?_
   clear hK K
   refine obI (v:=.agg zeroS) ?_ ?_
   ·unfold dsA
    go_simp
    exact⟨brefl _,rfl⟩
   intro K hK
   go_simp
   refine hK _ ?_
   clear hK K
   refine obI (v:=.bool true) ?_ ?_
   ·rw[if_pos (by rfl)]
    show doesUpon Tryz.prog _ (Sem.run Tryz.prog (do pure (.value (<-(do eqGuard .neq 86 (.tmp 72) (.tmp 73) (.agg (figA F)) (.agg zeroS);binOp .neq 86 (.agg (figA F)) (.agg zeroS))))) V6)
    rw[Sem.run_bind,Sem.run_bind,run_eqGuard_agg _ _ _ _ _ _ _ hgd,Result.andThen_ok,HN.out]
    exact⟨brefl _,rfl⟩
   intro K hK
   go_simp
   refine hK _ ?_
   clear hK K
   iterate 4 (refine obI ?_ ?_;unfold dsA;go_simp;(try go_bits);(first|(refine⟨brefl _,?_⟩;rfl)|rfl);intro K hK;go_simp;refine hK _ ?_;clear hK K)
   refine obI ?_ ?_
   ·unfold dsA
    go_simp
    refine(HA.out V6 HK7.out).mono ?_
    rintro e w1⟨rfl,hb1⟩
    (refine⟨?_,hb1⟩;rfl)
   intro K hK
   go_simp
   refine hK _ ?_
   clear hK K
   iterate 4 (refine obI ?_ ?_;unfold dsA;go_simp;(try go_bits);(first|(refine⟨brefl _,?_⟩;rfl)|rfl);intro K hK;go_simp;refine hK _ ?_;clear hK K)
   refine obI ?_ ?_
   ·unfold dsA
    go_simp
    refine(HB.out V6 HK7.out).mono ?_
    rintro e w1⟨rfl,hb1⟩
    (refine⟨?_,hb1⟩;rfl)
   intro K hK
   go_simp
   refine hK _ ?_
   clear hK K
   iterate 5 (refine obI ?_ ?_;unfold dsA;go_simp;(try go_bits);(first|(refine⟨brefl _,?_⟩;rfl)|rfl);intro K hK;go_simp;refine hK _ ?_;clear hK K)
   refine obI ?_ ?_
   ·unfold dsA
    go_simp
    refine(HC.out V6 HK7.out).mono ?_
    rintro e w1⟨rfl,hb1⟩
    (refine⟨?_,hb1⟩;rfl)
   intro K hK
   go_simp
   refine hK _ ?_
   clear hK K
   iterate 6 (refine obI ?_ ?_;unfold dsA;go_simp;(try go_bits);(first|(refine⟨brefl _,?_⟩;rfl)|rfl);intro K hK;go_simp;refine hK _ ?_;clear hK K)
   refine obI ?_ ?_
   ·unfold dsA
    go_simp
    refine(HD.out V6 HK7.out).mono ?_
    rintro e w1⟨rfl,hb1⟩
    (refine⟨?_,hb1⟩;rfl)
   intro K hK
   go_simp
   refine hK _ ?_
   clear hK K
   iterate 3 (refine obI ?_ ?_;unfold dsA;go_simp;(try go_bits);(first|(refine⟨brefl _,?_⟩;rfl)|rfl);intro K hK;go_simp;refine hK _ ?_;clear hK K)
   refine obN (λhx=>?_)
   clear hx hG HK6 HA HB HC HD w1 w2 w3 hgd HN
   obtain⟨m,hm⟩:∃m,r*c=m:=⟨_,rfl⟩
   have m1:m<=36:=by rw[<-hm];exact Nat.mul_le_mul hr hc
   have i5:IntKind.i64.wrap ((r:Int)*(c:Int))=(m:Int):=by rw[IntKind.wrap_i64,<-Int.natCast_mul,hm];omega
   have Hm:=Lib.hid hm
   clear hm
   by_cases go:most<m
   case pos=>
    have HR:=Lib.hid (show liesE rn cn most F (nzF F) ⟨t,l,r,c⟩=4 by rw[HEE.out,show Nat.blt most (r*c)=true from by rw[Hm.out];exact Nat.ble_eq_true_of_le go];rfl)
    have dm:decide (most<m)=true:=decide_eq_true go
    clear Hm go HEE
    go_wp2_with fail
    clear d0 d1 d3 d4 d5 d6 d7 d8 d9
    refine dag 11 (by kernel_rfl) (by kernel_rfl) (.is ?_::.is ?_::.is ?_::.is ?_::.is ?_::.is ?_::.is ?_::.is ?_::.is ?_::.is ?_::.is ?_::[]) rfl ?sq5 ?oq5
    case sq5=>simp[Spec.ok]
    case oq5=>
    intro env7 V7 hG
    have HK8:=Lib.hid (HK7.out.later hG)
    obtain⟨d0,d1,-,d3,d4,d5,d6,d7,d8,d9⟩:=HK8.out.cells
    iterate 11 (refine obI ?_ ?_;unfold dsA;go_simp;(try go_bits);(first|(refine⟨brefl _,?_⟩;rfl)|rfl);intro K hK;go_simp;refine hK _ ?_;clear hK K)
    refine obN (λhx=>?_)
    clear hx
    have HB:=Lib.hid HK8.out.bel
    go_wp2
    go_ret
    exact⟨by rw[HR.out];rfl,HB.out⟩
   case neg=>
    have HR:=Lib.hid (show liesE rn cn most F (nzF F) ⟨t,l,r,c⟩=0 by rw[HEE.out,show Nat.blt most (r*c)=false from by rw[Hm.out,Bool.eq_false_iff];exactλh=>go (Nat.le_of_ble_eq_true h)];rfl)
    have dm:decide (most<m)=false:=decide_eq_false go
    clear Hm go HEE
    go_wp2_with fail
    clear d0 d1 d3 d4 d5 d6 d7 d8 d9
    refine dag 11 (by kernel_rfl) (by kernel_rfl) (.is ?_::.is ?_::.is ?_::.is ?_::.is ?_::.is ?_::.is ?_::.is ?_::.is ?_::.is ?_::.is ?_::[]) rfl ?sq6 ?oq6
    case sq6=>simp[Spec.ok]
    case oq6=>
    intro env7 V7 hG
    have HK8:=Lib.hid (HK7.out.later hG)
    obtain⟨d0,d1,-,d3,d4,d5,d6,d7,d8,d9⟩:=HK8.out.cells
    iterate 11 (refine obI ?_ ?_;unfold dsA;go_simp;(try go_bits);(first|(refine⟨brefl _,?_⟩;rfl)|rfl);intro K hK;go_simp;refine hK _ ?_;clear hK K)
    refine obN (λhx=>?_)
    clear hx
    have HB:=Lib.hid HK8.out.bel
    go_wp2
    go_ret
    exact⟨by rw[HR.out];rfl,HB.out⟩
theorem lies_ok{T rb ro rn rc:Nat}{rs:ByteArray}{most:Nat}{F:Nat->Nat}(p:Pc)(ht:p.t<=6)(hl:p.l<=6)(hr:p.r<=6)(hc:p.c<=6)(w:World)(h:Bn w T rb ro rn rc rs most F):
 Calls Tryz.prog 32 #[.pointer (some ⟨T,0,none⟩),.agg (encPc p).toArray] w λe w'=>e=.returned (.int .i64 (liesE rn rs.size most F (nzF F) p:Nat))/\Below w.heap.size w w':=
 lies_cn rs.size rfl p.t p.l p.r p.c ht hl hr hc w h
end Go.Proofs.YtifehdoghfnhoaaGreatDoor.Pa
namespace Go.Proofs.YtifehdoghfnhoaaGreatDoor.Pa
open Go.RowKit Go.Shelf Go.Proofs.YtifehdoghfnhoaaGreatDoor.C
attribute [local go_sem] Oper.semAt_some
theorem piecesF_yes{e:Pc->Nat}{n:Nat}(h:e (pieceN n)=0):piecesF e (n+1)=piecesF e n++[pieceN n]:=by
 rw[piecesF,h];rfl
theorem piecesF_no{e:Pc->Nat}{n:Nat}(h:e (pieceN n)≠0):piecesF e (n+1)=piecesF e n:=by
 rw[piecesF]
 cases hb:Nat.beq (e (pieceN n)) 0 with
 |true=>exact absurd (Nat.eq_of_beq_eq_true hb) h
 |false=>simp
theorem Bn.below{W W':World}{n₀ T rb ro rn rc:Nat}{rs:ByteArray}{most:Nat}{F:Nat->Nat}(h:Bn W T rb ro rn rc rs most F)(hb:Below n₀ W W')(hT:T<n₀)(hr:rb<n₀):Bn W' T rb ro rn rc rs most F:=
 ⟨Nat.lt_of_lt_of_le h.lt hb.size,(hb.cell (p:=⟨T,0,none⟩) hT).trans h.c0,(hb.cell (p:=⟨T,1,none⟩) hT).trans h.c1,λi hi=>(hb.cell (p:=⟨T,3+i,none⟩) hT).trans (h.fig i hi),Nat.lt_of_lt_of_le h.rlt hb.size,(hb.cell (p:=⟨rb,ro,none⟩) hr).trans h.row,h.n1,h.n6,h.m6,h.most,h.F36⟩
theorem grown_none{W W':World}(h:Below W.heap.size W W'):W.grownBy W' none:=⟨h.os,h.tape,h.output,h.size,λk hk _=>h.block k hk⟩
def NewP(w:World)(v:Value)(W:World):Prop:=∃g,v=.pointer (some ⟨g,0,none⟩)/\w.heap.size<=g/\Blk W g 49 #[.int .i64 0,.int .i64 0,.int .i64 0,.int .i64 0]
theorem NewP.stab(w:World):∀v W W',Gr W W'->NewP w v W->NewP w v W':=λ_ _ _ hG⟨g,h1,h2,h4⟩=>⟨g,h1,h2,h4.later hG⟩
set_option maxRecDepth 100000 in
set_option maxHeartbeats 4000000 in
theorem pieces1_in(n:Nat)(l B1 n₀ T rb ro rn rc:Nat)(rs:ByteArray)(most:Nat)(F:Nat->Nat)(hB1:B1<n₀)(hT:T<n₀)(hrb:rb<n₀)(J Jx:List Pc->World->Prop)(W:World)(hn₀:n₀<=W.heap.size)
 (hJ:AbidesFrom W.heap.size J)
 (hY:∀pre x W1,J pre W1->pre.length<1296->YieldAt Fence.wide (n-1) Tryz.prog l #[.agg (encPc x).toArray] W1 λe W'=>
   (e=.returned (.bool true)/\J (pre++[x]) W'/\Below n₀ W1 W')\/(e=.returned (.bool false)/\Jx (pre++[x]) W'))
 (h1:W.cell? ⟨B1,0,none⟩=some (.pointer (some ⟨T,0,none⟩)))(hb:Bn W T rb ro rn rc rs most F)(h0:J [] W):
 CallsIn Fence.wide n Tryz.prog 267 #[.func (.yield l) #[] #[],.pointer (some ⟨B1,0,none⟩)] W λe W'=>(∃v,e=.returned v)/\
  ((∃ys,ys=piecesF (liesE rn rs.size most F (nzF F)) 1296/\J ys W')\/(∃pre,(∃k,k<=1296/\pre=piecesF (liesE rn rs.size most F (nzF F)) k)/\Jx pre W')):=by
 obtain⟨E,hE⟩:∃E,liesE rn rs.size most F (nzF F)=E:=⟨_,rfl⟩
 have HL:=Lib.hid (λ(p:Pc)(V:World)(ht:p.t<=6/\p.l<=6/\p.r<=6/\p.c<=6)(h:Bn V T rb ro rn rc rs most F)=>lies_ok p ht.1 ht.2.1 ht.2.2.1 ht.2.2.2 V h)
 rw[hE]at HL ⊢
 clear hE
 have HY:=Lib.hid hY
 have HJ:=Lib.hid hJ
 have Hb:=Lib.hid hb
 clear hY hJ hb
 refine callsIn_of_wp Tryz.func267 rfl trivial ?_ rfl
 simp only[Tryz.ntmps267,List.size_toArray,List.length_cons,List.length_nil,Nat.reduceAdd,Nat.reduceSub,Array.replicate_succ,Array.replicate_zero,List.push_toArray,List.append_toArray,List.nil_append,List.cons_append]
 gi_wp2
 gi_loopw [6] (λi wr=>∃k:Nat,k<=1296/\i=.int .i64 k/\J (piecesF E k) wr/\Below n₀ W wr)
  (λi _=>1296-(intOf i).toNat)
 case atStart=>exact⟨0,Nat.zero_le _,rfl,h0,Below.refl _ _⟩
 case round=>
  obtain⟨k,hk,rfl,hJs,hnx⟩:=hrel
  have r1:=(hnx.cell (p:=⟨B1,0,none⟩) hB1).trans h1
  have hsz:n₀<=wr.heap.size:=Nat.le_trans hn₀ hnx.size
  have hs1:B1<wr.heap.size:=by omega
  have HBr:=Lib.hid (Hb.out.below hnx hT hrb)
  have HJs:=Lib.hid hJs
  have Hnx:=Lib.hid hnx
  clear hJs hnx h1 h0
  by_cases hlt:k<1296
  ·obtain⟨k1,hk1⟩:∃k1,k / 6=k1:=⟨_,rfl⟩
   obtain⟨k2,hk2⟩:∃k2,k1 / 6=k2:=⟨_,rfl⟩
   obtain⟨pt,hpt⟩:∃pt,k2 / 6=pt:=⟨_,rfl⟩
   obtain⟨pl,hpl⟩:∃pl,k2 % 6=pl:=⟨_,rfl⟩
   obtain⟨r0,hr0⟩:∃r0,k1 % 6=r0:=⟨_,rfl⟩
   obtain⟨c0,hc0⟩:∃c0,k % 6=c0:=⟨_,rfl⟩
   obtain⟨pr,hpr⟩:∃pr,r0+1=pr:=⟨_,rfl⟩
   obtain⟨pc,hpc⟩:∃pc,c0+1=pc:=⟨_,rfl⟩
   have HP:=Lib.hid (show pieceN k=⟨pt,pl,pr,pc⟩by
    show(⟨k / 216,k / 36 % 6,k / 6 % 6+1,k % 6+1⟩:Pc)=_
    rw[show k / 216=pt by omega,show k / 36 % 6=pl by omega,hk1,hr0,hc0,hpr,hpc])
   have Hbd:=Lib.hid (show pt<=6/\pl<=6/\pr<=6/\pc<=6 by omega)
   have t1:(k:Int).tdiv 6=(k1:Int):=by rw[<-hk1];rfl
   have t2:(k1:Int).tdiv 6=(k2:Int):=by rw[<-hk2];rfl
   have t3:(k2:Int).tdiv 6=(pt:Int):=by rw[<-hpt];rfl
   have t4:(k2:Int).tmod 6=(pl:Int):=by rw[<-hpl];rfl
   have t5:(k1:Int).tmod 6=(r0:Int):=by rw[<-hr0];rfl
   have t6:(k:Int).tmod 6=(c0:Int):=by rw[<-hc0];rfl
   have x1:IntKind.i64.wrap (k1:Int)=(k1:Int):=by rw[IntKind.wrap_i64];omega
   have x2:IntKind.i64.wrap (k2:Int)=(k2:Int):=by rw[IntKind.wrap_i64];omega
   have x3:IntKind.i64.wrap (pt:Int)=(pt:Int):=by rw[IntKind.wrap_i64];omega
   have x4:IntKind.i64.wrap ((r0:Int)+1)=(pr:Int):=by rw[IntKind.wrap_i64];omega
   have x5:IntKind.i64.wrap ((c0:Int)+1)=(pc:Int):=by rw[IntKind.wrap_i64];omega
   have x6:IntKind.i64.wrap ((k:Int)+1)=(k:Int)+1:=by rw[IntKind.wrap_i64];omega
   have i1:(k:Int)<1296:=by omega
   clear hk1 hk2 hpt hpl hr0 hc0 hpr hpc
   gi_wp2_with fail
   refine dagIn 26 (lets_wide _ _) (by kernel_rfl) (by kernel_rfl) (.is ?_::.is ?_::.is ?_::.is ?_::.is ?_::.is ?_::.is ?_::.is ?_::.is ?_::.is ?_::.is ?_::.is ?_::.is ?_::.is ?_::.is ?_::.is ?_::.is ?_::.is ?_::.is ?_::.is ?_::.is ?_::.is ?_::.is ?_::.is ?_::.is ?_::.like (NewP wr)::[]) rfl ?sta ?oba
   case sta=>
    repeat (first|exact stab_nil|refine stab_is ?_|refine stab_like (NewP.stab wr) ?_)
   case oba=>
   intro env V hG
   iterate 25 (refine obI ?_ ?_;unfold dsA;go_simp;(try go_bits);(first|(refine⟨brefl _,?_⟩;rfl)|rfl);intro K hK;go_simp;refine hK _ ?_;clear hK K)
   refine obls_like (λ_=>?_) ?_
   ·unfold dsA
    go_simp
    exact⟨balloc (brefl V) _,V.heap.size,rfl,hG.size,Blk.new V _ _⟩
   intro K hK
   go_simp
   refine hK _ ?_
   clear hK K
   refine obls_last (λhok=>?_)
   obtain⟨g,he,hg,hblk⟩:NewP wr (env 25) V:=hok 25 _ rfl
   have e0:=hblk.cell 0
   have e1:=hblk.cell 1
   have e2:=hblk.cell 2
   have e3:=hblk.cell 3
   have f0:=hblk.frozen 0
   have f1:=hblk.frozen 1
   have f2:=hblk.frozen 2
   have f3:=hblk.frozen 3
   unfold dsA
   rw[he]
   go_simp
   obtain⟨U,hU⟩:∃U,(((V.setCell ⟨g,0,none⟩ (.int .i64 (pt:Nat))).setCell ⟨g,1,none⟩ (.int .i64 (pl:Nat))).setCell ⟨g,2,none⟩ (.int .i64 (pr:Nat))).setCell ⟨g,3,none⟩ (.int .i64 (pc:Nat))=U:=⟨_,rfl⟩
   have hBU:Below wr.heap.size wr U:=by
    rw[<-hU]
    exact Below.setCell (p:=⟨g,3,none⟩) (Below.setCell (p:=⟨g,2,none⟩) (Below.setCell (p:=⟨g,1,none⟩) (Below.setCell (p:=⟨g,0,none⟩) hG hg _) hg _) hg _) hg _
   have hblU:Blk U g 49 #[.int .i64 (pt:Nat),.int .i64 (pl:Nat),.int .i64 (pr:Nat),.int .i64 (pc:Nat)]:=by
    rw[<-hU]
    exact(((hblk.set 0 _).set 1 _).set 2 _).set 3 _
   rw[hU]
   have HBU:=Lib.hid hBU
   have HblU:=Lib.hid hblU
   have r2:U.cell? ⟨B1,0,none⟩=some (.pointer (some ⟨T,0,none⟩)):=(hBU.cell (p:=⟨B1,0,none⟩) hs1).trans r1
   have u0:=hblU.cell 0
   have u1:=hblU.cell 1
   have u2:=hblU.cell 2
   have u3:=hblU.cell 3
   have HJ1:=Lib.hid (HJ.out _ _ _ none HJs.out (grown_none hBU) (λr e=>by cases e))
   have HBn:=Lib.hid (HBr.out.below (Below.mono hBU hsz) hT hrb)
   have z1:g<U.heap.size:=hblU.lt
   have z2:B1<U.heap.size:=Nat.lt_of_lt_of_le hs1 hBU.size
   clear hU hBU hblU hblk e0 e1 e2 e3 f0 f1 f2 f3 hok he hG r1 x1 x2 x3 x4 x5 t1 t2 t3 t4 t5 t6 HJs HBr
   have hl:=HL.out ⟨pt,pl,pr,pc⟩ U Hbd.out HBn.out
   cases hq:E ⟨pt,pl,pr,pc⟩with
   |zero=>
    rw[hq]at hl
    have Hq:=Lib.hid hq
    have Hl:=Lib.hid hl
    clear hq hl
    gi_wp2_with fail
    refine⟨trivial,λh=>(by simp[Fence.wide]at h),?_⟩
    refine(callsIn_wide.2 Hl.out).mono ?_
    rintro e w1⟨rfl,hb1⟩
    have Hb1:=Lib.hid hb1
    have HB1:=Lib.hid (HblU.out.later hb1)
    have v0:=HB1.out.cell 0
    have v1:=HB1.out.cell 1
    have v2:=HB1.out.cell 2
    have v3:=HB1.out.cell 3
    have z3:g<w1.heap.size:=HB1.out.lt
    have hJ2:=HJ.out _ _ _ none HJ1.out (grown_none hb1) (λr e=>by cases e)
    obtain⟨fn',tmps',assign',body',hy,hR⟩:=HY.out (piecesF E k) ⟨pt,pl,pr,pc⟩ w1 hJ2 (Nat.lt_of_le_of_lt (piecesF_len E k) hlt)
    dsimp only[encPc]at hy
    have HR:=Lib.hid hR
    clear hb1 hJ2 hR u0 u1 u2 u3 r2 z1 z2
    gi_wp2
    refine⟨λh=>(by simp[Fence.wide]at h),?_⟩
    refine HR.out.mono ?_
    rintro e W3(⟨rfl,hJ3,hk3⟩|⟨rfl,hJx3⟩)
    ·have HJ3:=Lib.hid hJ3
     have Hk3:=Lib.hid hk3
     clear hJ3 hk3
     gi_wp2
     go_roundw
     case rel=>exact⟨k+1,by omega,by go_num,by rw[piecesF_yes (by rw[HP.out];exact Hq.out),HP.out];exact HJ3.out,((Hnx.out.trans (Below.mono HBU.out hsz)).trans (Below.mono Hb1.out (Nat.le_trans hsz HBU.out.size))).trans Hk3.out⟩
     case measure=>simp[intOf];omega
    ·have HJx3:=Lib.hid hJx3
     clear hJx3
     gi_wp2
     refine bodyPost_ret (results_none rfl _ _ _) rfl ?_
     exact⟨⟨_,rfl⟩,.inr ⟨_,⟨k+1,by omega,by rw[piecesF_yes (by rw[HP.out];exact Hq.out),HP.out]⟩,HJx3.out⟩⟩
   |succ q=>
    rw[hq]at hl
    have Hq:=Lib.hid hq
    have dq:(((q+1:Nat):Int)==0)=false:=by rw[beq_eq_false_iff_ne];omega
    obtain⟨q1,hq1⟩:∃q1,q+1=q1:=⟨_,rfl⟩
    rw[hq1]at hl dq
    have dz:decide ((q1:Int)=0)=false:=decide_eq_false (by omega)
    have dn:decide (q1=0)=false:=decide_eq_false (by omega)
    have de:¬q1=0:=by omega
    have Hl:=Lib.hid hl
    clear hq hl hq1
    gi_wp2_with fail
    refine⟨trivial,λh=>(by simp[Fence.wide]at h),?_⟩
    refine(callsIn_wide.2 Hl.out).mono ?_
    rintro e w1⟨rfl,hb1⟩
    have hJ2:=HJ.out _ _ _ none HJ1.out (grown_none hb1) (λr e=>by cases e)
    have Hb1:=Lib.hid hb1
    have HJ2:=Lib.hid hJ2
    clear hb1 hJ2 u0 u1 u2 u3 r2 z1 z2
    gi_wp2
    refine⟨λ_ h=>(by cases h),?_⟩
    gi_wp2
    go_roundw
    case rel=>exact⟨k+1,by omega,by go_num,by rw[piecesF_no (by rw[HP.out,Hq.out];omega)];exact HJ2.out,(Hnx.out.trans (Below.mono HBU.out hsz)).trans (Below.mono Hb1.out (Nat.le_trans hsz HBU.out.size))⟩
    case measure=>simp[intOf];omega
  ·obtain rfl:k=1296:=by omega
   gi_wp2
   go_end0
   exact⟨⟨_,rfl⟩,.inl ⟨_,rfl,HJs.out⟩⟩
theorem pieces_stops(n:Nat)(B1 n₀ T rb ro rn rc:Nat)(rs:ByteArray)(most:Nat)(F:Nat->Nat)(hB1:B1<n₀)(hT:T<n₀)(hrb:rb<n₀)(w:World)(hn₀:n₀<=w.heap.size)
 (h1:w.cell? ⟨B1,0,none⟩=some (.pointer (some ⟨T,0,none⟩)))(hb:Bn w T rb ro rn rc rs most F):
 SeqStopsK Fence.wide n Tryz.prog 267 #[.pointer (some ⟨B1,0,none⟩)] (λx:Pc=>#[.agg (encPc x).toArray]) (Below n₀)
  (λys=>ys=piecesF (liesE rn rs.size most F (nzF F)) 1296) (λpre=>∃k,k<=1296/\pre=piecesF (liesE rn rs.size most F (nzF F)) k) 1296 w:=λl J Jx W hW hJ _ hY h0=>
 pieces1_in n l B1 n₀ T rb ro rn rc rs most F hB1 hT hrb J Jx W (Nat.le_trans hn₀ hW.size) hJ hY
  ((hW.cell (p:=⟨B1,0,none⟩) (by show B1<_;omega)).trans h1) (hb.later hW) h0
end Go.Proofs.YtifehdoghfnhoaaGreatDoor.Pa
namespace Go.Proofs.YtifehdoghfnhoaaGreatDoor.Pa
open Go.RowKit Go.Shelf Go.Proofs.YtifehdoghfnhoaaGreatDoor.C
attribute [local go_sem] Oper.semAt_some
theorem und_pieces:Tryz.prog.underlying 47=some (.slice 49):=by kernel_rfl
theorem info_piece:(Tryz.prog.info? 49).map (λi=>(i.zero,i.size,i.bytes))=some (some (.agg #[.int .i64 0,.int .i64 0,.int .i64 0,.int .i64 0]),4,32):=by kernel_rfl
theorem four_new(w:World)(a b c d:Value)(t:TypeId):∀j u,[a,b,c,d][j]? =some u->(w.alloc (.cells #[a,b,c,d] t)).cell? ((⟨w.heap.size,0,none⟩:Addr).add j)=some u:=by
 intro j u hu
 have hadd:(⟨w.heap.size,0,none⟩:Addr).add j=⟨w.heap.size,j,none⟩:=by unfold Addr.add;split<;>simp_all
 rw[hadd,(Blk.new w t #[a,b,c,d]).cell]
 simpa using hu
def aAct(gf:Nat)(lb:Array Value)(B Bx:Nat)(x:Pc):Act:={tmps:=#[.slice none 0 0,.func (.func gf) #[] lb,.pointer (some ⟨B,0,none⟩),undef,.slice none 0 0,.pointer (some ⟨Bx,0,none⟩),.func (.func gf) #[] lb,.agg (encPc x).toArray,undef,undef,undef,undef,undef],defers:=[]}
set_option maxRecDepth 100000 in
set_option maxHeartbeats 4000000 in
theorem appendSeq_in(gf:Nat)(lb:Array Value)(eg:∀args w,(callFunc gf args).run Tryz.prog w=.ok (.enter gf args) w)(xs:List Pc)(Sp:List Pc->Prop)(w:World)
 (hseq:SeqStopsK Fence.wide 8 Tryz.prog gf lb (λx:Pc=>#[.agg (encPc x).toArray]) (Below w.heap.size) (λys=>ys=xs) Sp 1296 w):
 Calls Tryz.prog 266 #[.slice none 0 0,.func (.func gf) #[] lb] w λe w'=>∃v,e=.returned v/\w'.ownsRow w.heap.size 49 4 v xs.length (xs.flatMap encPc)/\(v=.slice none 0 0↔xs=[])/\Below w.heap.size w w':=by
 refine(callsIn_wide (n:=9)).1 ?_
 obtain⟨i0,hi,hz0,hz1,hz2⟩:=info_parts info_piece
 refine callsIn_of_wp_marks Tryz.func266 rfl trivial ?_ rfl
 simp only[Tryz.ntmps266,List.size_toArray,List.length_cons,List.length_nil,Nat.reduceAdd,Nat.reduceSub,Array.replicate_succ,Array.replicate_zero,List.push_toArray,List.append_toArray,List.nil_append,List.cons_append]
 have Hseq:=Lib.hid hseq
 clear hseq
 gi_wp2
 have bO:=Boxed.new w 47 (.slice none 0 0)
 have hB0:Below w.heap.size w (w.alloc (.cells #[.slice none 0 0] 47)):=(Below.refl _ w).alloc (Nat.le_refl _) _
 refine wpIn_rangeFunc_ownH (F:=Fence.wide) (n:=9) rfl (by omega) (gf:=gf) (lb:=lb) rfl trivial eg Hseq.out (λh k=>h.trans k) (belowK_b (by simp)) hB0 (λ_=>rfl)
  (λpre W=>(∃v,Boxed W w.heap.size 47 v/\W.ownsRow w.heap.size 49 4 v pre.length (pre.flatMap encPc)/\(v=.slice none 0 0↔pre=[]))/\Below w.heap.size w W)
  (λ_ _ _=>False)
  (OwnFrom.and (Own.from (holdsRow_own w.heap.size w.heap.size 47 49 4 (λpre:List Pc=>pre.length) (λpre=>pre.flatMap encPc) (λpre v=>v=.slice none 0 0↔pre=[])) _) (ownFrom_below (Nat.le_refl _) (by simp)))
  (λ_ _ _ _ _ hs _ _=>hs)
  ⟨⟨_,bO,World.ownsRow_nil _ _ _ _,by simp⟩,hB0⟩
  (λx a' W=>∃Bx,w.heap.size+1<=Bx/\Blk W Bx 49 (encPc x).toArray/\a'=aAct gf lb w.heap.size Bx x)
  (λx a' s W W' row hs hg hr=>by
    obtain⟨Bx,h1,h2,h3⟩:=hs
    exact⟨Bx,h1,h2.kept (Kept.of_grown hg hr),h3⟩) ?_ ?_ ?_ ?_
 ·intro l pre x W K hi hK
  obtain⟨⟨v,hv,hrow,hnil⟩,hB⟩:=hi
  have hlt:=hv.lt
  obtain⟨t,l',r,c⟩:=x
  simp only[encPc]
  gi_wp2
  exact hK _ _ ((KeepsOthers.alloc _ _).from _) ((Below.refl _ W).alloc hB.size _) ⟨⟨v,hv.alloc _,hrow.alloc _,hnil⟩,hB.alloc hB.size _⟩ ⟨W.heap.size,hlt,Blk.new W _ _,rfl⟩
 ·rintro l pre x a' W hl⟨r,hr⟩⟨⟨v,hv,hrow,hnil⟩,hB⟩⟨Bx,hBx,hblk,rfl⟩hlen
  obtain⟨t,l',r',c⟩:=x
  unfold aAct
  simp only[encPc]at hblk ⊢
  have hc:=hv.cell
  have b0:=hblk.cell 0
  have b1:=hblk.cell 1
  have b2:=hblk.cell 2
  have b3:=hblk.cell 3
  have hlb:=hblk.lt
  gi_wp2_with (gi_at_builtin;refine wpListIn_append_own _ rfl _ _ 47 rfl w.heap.size 49 i0 (.agg #[.int .i64 0,.int .i64 0,.int .i64 0,.int .i64 0]) 4 32 und_pieces hi hz0 hz1 hz2 rfl (by decide) v pre.length _ rfl (hrow.alloc _) ⟨W.heap.size,0,none⟩ 1 1 [.int .i64 (t:Nat),.int .i64 (l':Nat),.int .i64 (r':Nat),.int .i64 (c:Nat)] rfl rfl (four_new _ _ _ _ _ _) (by simp[Value.oneCell']) (by simp only[maxLen];omega) (by omega) (by have:=hB.size;simp;omega) ?_;intro v' w1 hown' hgrow _;obtain⟨g',cap',rfl⟩:=ownsRow_succ hown';obtain⟨hv1,hv2,hr2,hk2,hb2⟩:=hv.appended (by decide) hrow hB.size (Nat.le_refl _) hown' hgrow;have hc1:=hv1.cell;have hf1:=hv1.frozen)
  exact⟨hk2.from _,hb2,⟨_,hv2,by simpa[encPc]using hr2,by simp⟩,hB.trans hb2⟩
 ·rintro D ys W hD rfl⟨⟨v,hv,hrow,hnil⟩,hB⟩hK
  have hc:=hv.cell
  gi_wp2
  refine⟨by simp,.inl ⟨_,_,rfl,run_takeDeferred hK,?_⟩⟩
  exact⟨_,results_tmp rfl _ _ _,v,rfl,ownsRow_putObj hrow _ hK rfl,hnil,hB.trans (belowK_b (w:=w) (Nat.le_refl _) W D _ _ (by simp at hD;omega) hK rfl rfl)⟩
 ·intro D c pre W _ _ h _
  exact h.elim
set_option maxHeartbeats 1000000 in
theorem collect_in(gf:Nat)(lb:Array Value)(eg:∀args w,(callFunc gf args).run Tryz.prog w=.ok (.enter gf args) w)(xs:List Pc)(Sp:List Pc->Prop)(w:World)
 (hseq:SeqStopsK Fence.wide 8 Tryz.prog gf lb (λx:Pc=>#[.agg (encPc x).toArray]) (Below w.heap.size) (λys=>ys=xs) Sp 1296 w):
 Calls Tryz.prog 174 #[.func (.func gf) #[] lb] w λe w'=>∃v,e=.returned v/\w'.ownsRow w.heap.size 49 4 v xs.length (xs.flatMap encPc)/\(v=.slice none 0 0↔xs=[])/\Below w.heap.size w w':=by
 have H:=Lib.hid (appendSeq_in gf lb eg xs Sp w hseq)
 clear hseq
 go_enter Tryz.func174,Tryz.ntmps174
 go_wp2_with fail
 refine H.out.mono ?_
 rintro e w1⟨v,rfl,h1,h2,h3⟩
 go_wp2
 go_ret
 exact⟨v,rfl,h1,h2,h3⟩
theorem collect_pieces(B1 T rb ro rn rc:Nat)(rs:ByteArray)(most:Nat)(F:Nat->Nat)(w:World)(hB1:B1<w.heap.size)(h1:w.cell? ⟨B1,0,none⟩=some (.pointer (some ⟨T,0,none⟩)))(hb:Bn w T rb ro rn rc rs most F):
 Calls Tryz.prog 174 #[.func (.func 267) #[] #[.pointer (some ⟨B1,0,none⟩)]] w λe w'=>∃v,e=.returned v/\
  w'.ownsRow w.heap.size 49 4 v (piecesF (liesE rn rs.size most F (nzF F)) 1296).length ((piecesF (liesE rn rs.size most F (nzF F)) 1296).flatMap encPc)/\(v=.slice none 0 0↔piecesF (liesE rn rs.size most F (nzF F)) 1296=[])/\Below w.heap.size w w':=
 collect_in _ _ (enters_of Tryz.func267 (by kernel_rfl) rfl) _ _ w (pieces_stops 8 B1 w.heap.size T rb ro rn rc rs most F hB1 hb.lt hb.rlt w (Nat.le_refl _) h1 hb)
end Go.Proofs.YtifehdoghfnhoaaGreatDoor.Pa
namespace Go.Proofs.YtifehdoghfnhoaaGreatDoor.Ev
noncomputable section
open Go.RowKit Go.Shelf
theorem cell_rel{ρ:Rho}{W:World}{b κ:Nat}{cs:List AV}{t:TypeId}(h:RelO ρ W b κ (.cells cs t)){i:Nat}{a:AV}(ha:cs[i]? =some a):∃v,W.cell? ⟨b,i,none⟩=some v/\RelV ρ a v:=by
 obtain⟨arr,h1,h2,h3,h4⟩:=h
 obtain⟨v,h5,h6⟩:=h4.get ha
 have hi:=(List.getElem?_eq_some_iff.1 ha).1
 refine⟨v,?_,h6⟩
 rw[List.getElem?_take_of_lt hi]at h5
 rw[Lib.cell_of_heap h1]
 simpa using h5
def natsA:List AV->Option (List Nat)
 |[]=>some []
 | .lit (.int .i64 (.ofNat n))::l=>match natsA l with
   |some m=>some (n::m)
   |none=>none
 |_=>none
theorem natsA_get:∀{l:List AV}{m:List Nat},natsA l=some m->m.length=l.length/\∀(j:Nat)x,m[j]? =some x->l[j]? =some (.lit (.int .i64 (.ofNat x)))
 |[],m,h=>by cases h;simp
 |a::l,m,h=>by
  unfold natsA at h
  split at h
  ·rename_i e;cases e
  ·rename_i x l' e
   cases e
   split at h
   ·rename_i m' hm
    cases h
    have ih:=natsA_get hm
    refine⟨by simp[ih.1],λj y hy=>?_⟩
    cases j with
    |zero=>simp at hy;subst hy;rfl
    |succ j=>exact ih.2 j y (by simpa using hy)
   ·cases h
  ·cases h
def pcA(p:Pa.Pc):List AV:=[.lit (.int .i64 (.ofNat p.t)),.lit (.int .i64 (.ofNat p.l)),.lit (.int .i64 (.ofNat p.r)),.lit (.int .i64 (.ofNat p.c))]
def piecesG(e:Pa.Pc->Nat)(m:Nat):Nat->List Pa.Pc:=
 Nat.rec (motive:=λ_=>Nat->List Pa.Pc) (λ_=>[]) (λ_ ih i=>bif Nat.beq (e (Pa.pieceN i)) 0 then Pa.pieceN i::ih (Nat.succ i)else ih (Nat.succ i)) m
theorem piecesG_succ(e:Pa.Pc->Nat)(m i:Nat):piecesG e (m+1) i=bif Nat.beq (e (Pa.pieceN i)) 0 then Pa.pieceN i::piecesG e m (Nat.succ i)else piecesG e m (Nat.succ i):=rfl
theorem piecesG_is(e:Pa.Pc->Nat):∀m i,Pa.piecesF e (i+m)=Pa.piecesF e i++piecesG e m i
 |0,i=>by show _=_++[];simp
 |m+1,i=>by
  rw[show i+(m+1)=(i+1)+m by omega,piecesG_is e m (i+1),piecesG_succ,Pa.piecesF]
  cases Nat.beq (e (Pa.pieceN i)) 0<;>simp
theorem pcA_rel(ρ:Rho):∀l:List Pa.Pc,RelL ρ (l.flatMap pcA) (l.flatMap Pa.encPc)
 |[]=>rfl
 |_::l=>⟨_,_,rfl,⟨_,_,rfl,⟨_,_,rfl,⟨_,_,rfl,pcA_rel ρ l,rfl⟩,rfl⟩,rfl⟩,rfl⟩
theorem pcA_len(l:List Pa.Pc):(l.flatMap pcA).length=l.length*4:=by
 induction l with
 |nil=>rfl
 |cons p l ih=>rw[List.flatMap_cons,List.length_append,ih,List.length_cons];simp[pcA];omega
def okG(rn sz most:Nat)(l:List Nat):Bool:=Nat.ble 1 rn&&Nat.ble rn 6&&(Nat.ble sz 6&&Nat.ble most 1000)&&(Nat.beq l.length 49&&l.all (λx=>Nat.ble x 1000))
def pieceT:Nat:=49
def outG(k:Nat):List Pa.Pc->Option Rs
 |[]=>some ⟨.lit (.slice none 0 0),[],k⟩
 |p::ps=>some ⟨.sl k 0 (p::ps).length (p::ps).length 4 false,[(k,some (.cells ((p::ps).flatMap pcA) pieceT))],k+1⟩
def collectO(args:List AV)(H:Hp)(k:Nat):Option Rs:=match args with
 |[.fn (.func f) [] [.ptr nB 0]]=>bif Nat.beq f 267 then(match H nB with
  |some (.cells (.ptr nT 0::_) _)=>match H nT with
   |some (.cells (.sl nR o rn _ _ _::.lit (.int .i64 (.ofNat most))::_::figs) _)=>match H nR,natsA figs with
    |some (.cells rows _),some l=>match rows[o]? with
     |some (.lit (.string rs))=>bif okG rn rs.size most l then outG k (piecesG (Pa.liesE rn rs.size most (λi=>l.getD i 0) (Pa.nzF (λi=>l.getD i 0))) 1296 0)else none
     |_=>none
    |_,_=>none
   |_=>none
  |_=>none)else none
 |_=>none
theorem bench_rel{N:Nat}{ρ:Rho}{H:Hp}{W:World}{vs:List Value}{nB nT nR o rn lb es most:Nat}{ex:Bool}{csB figs rows:List AV}{tB tT tR:TypeId}{kn:AV}{l:List Nat}{rs:ByteArray}(hH:RelH N ρ H W)(hv:RelL ρ [.fn (.func 267) [] [.ptr nB 0]] vs)
 (hB:H nB=some (.cells (.ptr nT 0::csB) tB))(hT:H nT=some (.cells (.sl nR o rn lb es ex::.lit (.int .i64 (.ofNat most))::kn::figs) tT))(hR:H nR=some (.cells rows tR))(hl:natsA figs=some l)(hrs:rows[o]? =some (.lit (.string rs))) (hok:okG rn rs.size most l=true):
 ∃bB bT bR cR,vs=[.func (.func 267) #[] #[.pointer (some ⟨bB,0,none⟩)]]/\bB<W.heap.size/\W.cell? ⟨bB,0,none⟩=some (.pointer (some ⟨bT,0,none⟩))/\Pa.Bn W bT bR o rn cR rs most (λi=>l.getD i 0):=by
 simp only[okG,Bool.and_eq_true]at hok
 obtain⟨⟨⟨g1,g2⟩,g3,g4⟩,g5,g6⟩:=hok
 have g1:=Nat.le_of_ble_eq_true g1
 have g2:=Nat.le_of_ble_eq_true g2
 have g3:=Nat.le_of_ble_eq_true g3
 have g4:=Nat.le_of_ble_eq_true g4
 have g5:=Nat.eq_of_beq_eq_true g5
 obtain⟨v,vs',⟨ys,cs,hy,⟨v1,vs1,⟨bB,κB,hrB,rfl⟩,hv1,rfl⟩,rfl⟩,hv2,rfl⟩:=hv
 obtain rfl:=show ys=[]from hy
 obtain rfl:=show vs1=[]from hv1
 obtain rfl:=show vs'=[]from hv2
 obtain⟨bB',κB',hrB',_,hoB⟩:=hH.obj nB _ hB
 rw[hrB]at hrB'
 cases hrB'
 obtain⟨w0,hw0,bT,κT,hrT,rfl⟩:=cell_rel hoB (i:=0) rfl
 obtain⟨bT',κT',hrT',_,hoT⟩:=hH.obj nT _ hT
 rw[hrT]at hrT'
 cases hrT'
 obtain⟨w1,hw1,bR,κR,cR,hrR,rfl,_⟩:=cell_rel hoT (i:=0) rfl
 obtain⟨w2,hw2,hw2'⟩:=cell_rel hoT (i:=1) rfl
 obtain rfl:=show w2=_ from hw2'
 obtain⟨bR',κR',hrR',_,hoR⟩:=hH.obj nR _ hR
 rw[hrR]at hrR'
 cases hrR'
 obtain⟨w3,hw3,hw3'⟩:=cell_rel hoR hrs
 obtain rfl:=show w3=_ from hw3'
 obtain⟨n1,n2⟩:=natsA_get hl
 have hget:∀i,i<49->l[i]? =some (l.getD i 0):=λi hi=>by
  rw[List.getD_eq_getElem?_getD,List.getElem?_eq_getElem (by omega)]
  rfl
 refine⟨bB,bT,bR,cR,rfl,hoB.lt,hw0,hoT.lt,hw1,hw2,λi hi=>?_,hoR.lt,hw3,g1,g2,g3,g4,λi hi=>Nat.le_of_ble_eq_true (List.all_eq_true.1 g6 _ (List.mem_of_getElem? (hget i hi)))⟩
 obtain⟨w4,hw4,hw4'⟩:=cell_rel hoT (i:=3+i) (a:=.lit (.int .i64 (.ofNat (l.getD i 0)))) (by
  rw[show 3+i=i+1+1+1 by omega]
  simpa using n2 i _ (hget i hi))
 rw[hw4,show w4=_ from hw4']
 rfl
set_option maxHeartbeats 1000000 in
theorem collectO_ok:∀args H k r,collectO args H k=some r->TgtOk Tryz.prog (.fn 174) args H k r:=λargs H k r he=>by
 unfold collectO at he
 split at he
 ·rename_i f nB
  cases hf:Nat.beq f 267 with
  |false=>rw[hf]at he;cases he
  |true=>
   rw[hf,cond_true]at he
   obtain rfl:=Nat.eq_of_beq_eq_true hf
   split at he
   ·rename_i nT csB tB hB
    split at he
    ·rename_i nR o rn lb es ex most kn figs tT hT
     split at he
     ·rename_i rows tR l hR hl
      split at he
      ·rename_i rs hrs
       cases hok:okG rn rs.size most l with
       |false=>rw[hok]at he;cases he
       |true=>
        rw[hok,cond_true]at he
        obtain⟨xs,hxs⟩:∃xs,piecesG (Pa.liesE rn rs.size most (λi=>l.getD i 0) (Pa.nzF (λi=>l.getD i 0))) 1296 0=xs:=⟨_,rfl⟩
        rw[hxs]at he
        have hpf:Pa.piecesF (Pa.liesE rn rs.size most (λi=>l.getD i 0) (Pa.nzF (λi=>l.getD i 0))) 1296=xs:=by
         have:=piecesG_is (Pa.liesE rn rs.size most (λi=>l.getD i 0) (Pa.nzF (λi=>l.getD i 0))) 1296 0
         rw[hxs]at this
         rw[show(1296:Nat)=0+1296 from rfl,this]
         rfl
        cases xs with
        |nil=>
         cases he
         refine⟨Nat.le_refl _,touch_nil _ _ _,λ{N ρ W vs}hH hv hfr=>⟨λW=>Tryz.call174 _ W,?_⟩⟩
         obtain⟨bB,bT,bR,cR,rfl,hlt,hw0,hbn⟩:=bench_rel hH hv hB hT hR hl hrs hok
         refine(Pa.collect_pieces bB bT bR o rn cR rs most (λi=>l.getD i 0) W hlt hw0 hbn).mono (λe W' he=>?_)
         obtain⟨v,rfl,hrow,hnil,hbel⟩:=he
         rw[hpf]at hnil
         obtain rfl:=hnil.2 rfl
         exact⟨_,rfl,ρ,Post.same hH hbel,rfl⟩
        |cons p ps=>
         cases he
         refine⟨Nat.le_succ _,λm hm=>?_,λ{N ρ W vs}hH hv hfr=>⟨λW=>Tryz.call174 _ W,?_⟩⟩
         ·rw[look_cons]at hm
          by_cases e:m=k
          ·exact .inr ⟨by omega,by show m<k+1;omega⟩
          ·rw[if_neg e]at hm;exact absurd rfl hm
         ·obtain⟨bB,bT,bR,cR,rfl,hlt,hw0,hbn⟩:=bench_rel hH hv hB hT hR hl hrs hok
          refine(Pa.collect_pieces bB bT bR o rn cR rs most (λi=>l.getD i 0) W hlt hw0 hbn).mono (λe W' he=>?_)
          obtain⟨v,rfl,hrow,hnil,hbel⟩:=he
          rw[hpf]at hrow hnil
          rcases hrow.2 with⟨h0,_⟩|⟨g,cap,cur,rfl,hg,hgb,hc1,hc2,hc3,hc4⟩
          ·have:=hnil.1 h0
           cases this
          ·have hk:=hfr k (Nat.le_refl _) (Nat.lt_succ_self _)
           have hlen:=pcA_len (p::ps)
           refine⟨_,rfl,upR ρ k (g,cur.size),?_,?_⟩
           ·rw[app_cons,app_nil]
            refine Post.new hH hk hbel hg ⟨cur,hgb,rfl,?_,?_⟩
            ·rw[hlen,hc3]
             exact Nat.mul_le_mul_right 4 hc1
            ·rw[hlen,hc4]
             exact pcA_rel _ _
           ·refine⟨g,cur.size,cap,by simp[upR],rfl,Nat.le_refl _,?_,?_,hc2⟩
            ·simpa using hc1
            ·rw[hc3];omega
      ·cases he
     ·cases he
    ·cases he
   ·cases he
 ·cases he
def lgOrc:Orc:=λf=>bif Nat.beq f 174 then some collectO else strOrc f
theorem lgOrc_ok:OrcOk Tryz.prog lgOrc:=orc_or collectO_ok strOrc_ok
def evL:Ev:=evN Tryz.prog mapsH fnT.get lgOrc 30
theorem evL_ok:EvOk Tryz.prog evL:=evN_ok mapsH_ok rfl mixed_ok fnT_ok lgOrc_ok 30
end
end Go.Proofs.YtifehdoghfnhoaaGreatDoor.Ev
