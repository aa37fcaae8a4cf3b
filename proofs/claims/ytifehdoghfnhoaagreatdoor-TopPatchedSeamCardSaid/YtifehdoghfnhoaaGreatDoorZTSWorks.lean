/- Works: the examples of the chapter hold. -/
import Derived.Test.YtifehdoghfnhoaaGreatDoorZSApiG
import Derived.Test.YtifehdoghfnhoaaGreatDoorZSProved
import Derived.Laws.CopyOwn
import Derived.Test.YtifehdoghfnhoaaGreatDoorZSLit
import Derived.Test.YtifehdoghfnhoaaGreatDoorZSPlainG
import Derived.KernelRfl
import Derived.Test.YtifehdoghfnhoaaGreatDoorZTSRefG
namespace Go.Proofs.YtifehdoghfnhoaaGreatDoor
open Go.RowKit Go.Shelf
theorem run_copy_any{P:Program}(w:World)(dT sT ty elem:TypeId)(g dLen dCap:Nat)(a:Addr)(sLen sCap:Nat)(cur:Array Value)(t:TypeId)(cs:List Value)(i:TypeInfo)
 (hu:P.underlying dT=some (.slice elem))(hi:P.info? elem=some i)
 (hg:w.heap[g]? =some (.cells cur t (0,0))) (hn:cs.length=Nat.min sLen dLen*i.size)
 (hsrc:∀j v,cs[j]? =some v->w.cell? (a.add j)=some v) (hfit:cs.length<=cur.size) (h1:∀v∈cs,v.oneCell'=true):
 (Builtin.copy_ #[dT,sT] ty #[.slice (some ⟨g,0,none⟩) dLen dCap,.slice (some a) sLen sCap]).run P w=
   .ok (goInt (Nat.min sLen dLen:Nat)) (w.setRow g (cs++cur.toList.drop cs.length).toArray):=by
 have hl:=run_loadCells_list (P:=P) w a cs hsrc
 have hst:=run_storeCells_at P g 0 t cs 0 cur w hg (by simpa using hfit) h1
 simp only[Nat.add_zero,Nat.zero_add,List.take_zero,List.nil_append]at hst
 simp[Builtin.copy_,run_underlying hu,Builtin.lenOf,Builtin.firstCells,sizeOf,typeInfo,hi,<-hn,hl,hst]
theorem make_rgs(n:Nat)(hn:n<=1000)(W:World):
 (Instr.makeSlice 28 (.int .i64 n) (.int .i64 n)).run Tryz.prog W=.ok (.slice (some ⟨W.heap.size,0,none⟩) n n) (W.alloc (.cells (madeCells #[.int .i64 0,.int .i64 0] (n*2)) 34)):=by
 obtain⟨i0,hi,hz0,hz1,hz2⟩:=info_parts info_rg
 have h:=run_make (P:=Tryz.prog) W 28 34 i0 (.agg #[.int .i64 0,.int .i64 0]) und_rgs hi hz0 .i64 .i64 n n (by omega) (Int.le_refl _) (by rw[hz2];omega) (by omega)
 rw[hz1]at h
 simpa[Value.cells]using h
set_option maxRecDepth 100000 in
set_option maxHeartbeats 4000000 in
theorem proofC_ok(L:Nat)(A:Option Addr)(c:Nat)(rs:List Rg)(w:World)(hs:Sl 2 encR w w.heap.size A rs.length c rs)(he:yardE (L:Int) rs=0):
 Calls Tryz.prog 166 #[.agg #[.int .i64 (L:Int),.slice A rs.length c]] w λe w'=>∃g ws,e=.returned (.tuple #[.slice (some ⟨g,0,none⟩) ws.length ws.length,.int .i64 0])/\Below w.heap.size w w'/\Sl 2 encR w' w'.heap.size (some ⟨g,0,none⟩) ws.length ws.length ws/\ChainOk rs (L:Int) 101 ws (LA rs L 101):=by
 obtain⟨hL,hr⟩:=yard_ok he
 have HY:=Lib.hid (show YB w (w.alloc (.cells #[.int .i64 (L:Int),.slice A rs.length c] 30)) (L:Int) A rs.length c from⟨balloc (brefl w) _,Blk.new w _ _⟩)
 have hc:=Lib.hid (open_ok (L:Int) A rs.length c rs _ (hs.later HY.out.bel) he)
 have Hs:=Lib.hid hs
 have Hr:=Lib.hid hr
 clear hs he hr
 go_enter Tryz.func166,Tryz.ntmps166
 go_wp2_with fail
 refine hc.out.mono ?_
 rintro e w1⟨g,rfl,hb1,hg,hv⟩
 have hB1:=Below.later HY.out.bel hb1
 have hf:=proof_any g L A c rs w1 hv (Hs.out.later hB1) Hr.out (by omega)
 have HB1:=Lib.hid hB1
 have Hf:=Lib.hid hf
 clear hb1 hv hB1 hf
 go_wp2_with fail
 refine Hf.out.mono ?_
 rintro e w2⟨An,cc,ws,rfl,hb2,hown,hch⟩
 have hwl:ws.length<=10:=by
  have h1:=chain_len (rs:=rs) hL.1 (λx hx=>(Hr.out.2 x hx).2.1) ws (λr hr=>(hch.win r hr).2) hch.pw
  have h2:=List.countP_le_length (p:=λx=>ws.any λr=>inWd r x) (l:=rs)
  have h3:=Hr.out.1
  omega
 have HB2:=Lib.hid (Below.later HB1.out hb2)
 have Hch:=Lib.hid hch
 obtain⟨i0,hi,hz0,hz1,hz2⟩:=info_parts info_rg
 obtain⟨n,hn⟩:∃n,ws.length=n:=⟨_,rfl⟩
 have Hn:=Lib.hid hn
 rw[hn]at hown hwl ⊢
 clear hb2 hch hn
 have hmk:=make_rgs n (by omega) w2
 have hblk:(w2.alloc (.cells (madeCells #[.int .i64 0,.int .i64 0] (n*2)) 34)).heap[w2.heap.size]? =some (.cells (madeCells #[.int .i64 0,.int .i64 0] (n*2)) 34 (0,0)):=World.alloc_heap_new w2 _
 have hxl:(ws.flatMap encR).length=n*2:=hown.1
 have hfin:∀W':World,W'.heap[w2.heap.size]? =some (.cells ((ws.flatMap encR)++(madeCells #[Value.int .i64 0,.int .i64 0] (n*2)).toList.drop (ws.flatMap encR).length).toArray 34 (0,0))->Sl 2 encR W' W'.heap.size (some ⟨w2.heap.size,0,none⟩) n n ws:=by
  intro W' hW
  refine⟨Hn.out,Nat.le_refl _,by omega,λ_=>⟨w2.heap.size,0,rfl,(Array.getElem?_eq_some_iff.1 hW).1,λi x hx j u hu=>?_⟩⟩
  have h1:=flat_get (k:=2) (enc:=encR) (λ_=>rfl) ws i x hx j u hu
  have hlt:i*2+j<(ws.flatMap encR).length:=(List.getElem?_eq_some_iff.1 h1).1
  have h2:W'.cell? ⟨w2.heap.size,0+i*2+j,none⟩=((ws.flatMap encR)++(madeCells #[Value.int .i64 0,.int .i64 0] (n*2)).toList.drop (ws.flatMap encR).length).toArray[0+i*2+j]? :=by simp[World.cell?,hW]
  rw[h2,Nat.zero_add,List.getElem?_toArray,List.getElem?_append_left hlt]
  exact h1
 have hmin:Nat.min n n=n:=Nat.min_self n
 rcases hown.2 with⟨hv,h0⟩|⟨g',cap,cur,hv,hg0,hg',hcap,hmax,hsz,htake⟩
 ·simp only[Value.slice.injEq]at hv
  obtain⟨rfl,rfl,rfl⟩:=hv
  have hcp:=λty=>run_copy_nil (P:=Tryz.prog) (w2.alloc (.cells #[] 34)) 28 28 ty 34 ⟨w2.heap.size,0,none⟩ 0 0 und_rgs (by rw[hi];rfl)
  have h2:madeCells #[Value.int .i64 0,.int .i64 0] (0*2)=#[]:=by apply Array.eq_empty_of_size_eq_zero;simp[madeCells]
  rw[h2]at hmk
  have hmk0:(Instr.makeSlice 28 (.int .i64 0) (.int .i64 0)).run Tryz.prog w2=.ok (.slice (some ⟨w2.heap.size,0,none⟩) 0 0) (w2.alloc (.cells #[] 34)):=hmk
  clear hmk
  have hblk0:(w2.alloc (.cells #[] 34)).heap[w2.heap.size]? =some (.cells #[] 34 (0,0)):=World.alloc_heap_new w2 _
  have hx0:ws=[]:=List.length_eq_zero_iff.1 Hn.out
  have HF:=Lib.hid (hfin _ (by rw[hblk0,hx0];simp[madeCells]))
  have HG:=Lib.hid (balloc HB2.out (.cells #[] 34))
  clear hfin hown hblk hxl hx0 hblk0 h2 h0
  go_wp2
  go_ret2
  exact⟨w2.heap.size,ws,by rw[Hn.out];rfl,HG.out,by rw[Hn.out];exact HF.out,Hch.out⟩
 ·simp only[Value.slice.injEq]at hv
  obtain⟨rfl,_,rfl⟩:=hv
  have hcp:=λty=>run_copy_any (P:=Tryz.prog) (w2.alloc (.cells (madeCells #[.int .i64 0,.int .i64 0] (n*2)) 34)) 28 28 ty 34 w2.heap.size n n ⟨g',0,none⟩ n cc _ _ (ws.flatMap encR) i0 und_rgs hi hblk (by rw[hz1,hmin];exact hxl)
   (λj u hu=>(hown.alloc _).cells rfl j u hu) (by rw[hxl];simp[madeCells]) (by
     intro u hu
     obtain⟨x,_,hx⟩:=List.mem_flatMap.1 hu
     simp[encR]at hx
     rcases hx with rfl|rfl<;>rfl)
  simp only[hmin]at hcp
  obtain⟨W3,hW3⟩:∃W3,(w2.alloc (.cells (madeCells #[.int .i64 0,.int .i64 0] (n*2)) 34)).setRow w2.heap.size ((ws.flatMap encR)++(madeCells #[Value.int .i64 0,.int .i64 0] (n*2)).toList.drop (ws.flatMap encR).length).toArray=W3:=⟨_,rfl⟩
  have hr3:W3.heap[w2.heap.size]? =some (.cells ((ws.flatMap encR)++(madeCells #[Value.int .i64 0,.int .i64 0] (n*2)).toList.drop (ws.flatMap encR).length).toArray 34 (0,0)):=by
   rw[<-hW3];rw[setRow_heap _ _ _ _ _ _ hblk]
  have hg3:Below w.heap.size w W3:=by
   rw[<-hW3];exact below_setRow (balloc HB2.out _) HB2.out.size _
  rw[hW3]at hcp
  have HF:=Lib.hid (hfin _ hr3)
  have HG:=Lib.hid hg3
  clear hfin hown hblk hxl hr3 hg3 hW3 htake hg' hcap hsz
  go_wp2
  go_ret2
  exact⟨w2.heap.size,ws,by rw[Hn.out];rfl,HG.out,by rw[Hn.out];exact HF.out,Hch.out⟩
end Go.Proofs.YtifehdoghfnhoaaGreatDoor
namespace Go.Proofs.YtifehdoghfnhoaaGreatDoor
open Go.RowKit Go.Shelf
theorem x_yard:yardE 2 rsA=0:=by kernel_rfl
theorem x_yard0:yardE 1 []=0:=by kernel_rfl
theorem x_h1:hoursE 2 rsA [2,4,4,7,7]=0/\hoursV 2 rsA [2,4,4,7,7]=3:=⟨by kernel_rfl,by kernel_rfl⟩
theorem x_h2:hoursE 2 rsA [2,4,4,6,7]=0/\hoursV 2 rsA [2,4,4,6,7]=4:=⟨by kernel_rfl,by kernel_rfl⟩
theorem x_h3:hoursE 2 rsA [2,4,4,7]=15/\hoursV 2 rsA [2,4,4,7]=0:=⟨by kernel_rfl,by kernel_rfl⟩
theorem x_h4:hoursE 2 rsA [2,4,4,7,8]=19/\hoursV 2 rsA [2,4,4,7,8]=0:=⟨by kernel_rfl,by kernel_rfl⟩
theorem x_few:fewV 2 rsA=3:=by kernel_rfl
theorem x_few0:fewV 1 []=0:=by kernel_rfl
theorem x_la:LA rsA 2 101=3:=by kernel_rfl
theorem x_n1:needE 2 rsA ⟨2,9⟩=0/\needV 2 rsA ⟨2,9⟩=3:=⟨by kernel_rfl,by kernel_rfl⟩
theorem x_n2:needE 2 rsA ⟨9,2⟩=3/\needV 2 rsA ⟨9,2⟩=0:=⟨by kernel_rfl,by kernel_rfl⟩
theorem x_p1:proofE 2 rsA [⟨2,5⟩,⟨6,9⟩]=0/\proofV 2 rsA [⟨2,5⟩,⟨6,9⟩]=2:=⟨by kernel_rfl,by kernel_rfl⟩
theorem x_p2:proofE 2 rsA [⟨2,5⟩,⟨5,9⟩]=16/\proofV 2 rsA [⟨2,5⟩,⟨5,9⟩]=0:=⟨by kernel_rfl,by kernel_rfl⟩
theorem x_e:earlyV 2 rsA=[2,4,7]:=by kernel_rfl
theorem x_l:lateV 2 rsA=[4,7,9]:=by kernel_rfl
theorem x_k1:keepE 2 rsA 2=0/\keepV 2 rsA 2=[0,1,2,3]:=⟨by kernel_rfl,by kernel_rfl⟩
theorem x_k2:keepE 2 rsA 11=3/\keepV 2 rsA 11=[]:=⟨by kernel_rfl,by kernel_rfl⟩
end Go.Proofs.YtifehdoghfnhoaaGreatDoor
namespace Go.Proofs.YtifehdoghfnhoaaGreatDoor
open Go.RowKit Go.Shelf
structure WK(w W:World)(B1 B2:Nat)(AA AB:Option Addr)(ca cb:Nat):Prop where
 bel:Below w.heap.size w W
 b1:Blk W B1 30 #[.int .i64 2,.slice AA 5 ca]
 b2:Blk W B2 30 #[.int .i64 1,.slice AB 0 cb]
 s1:Sl 2 encR W W.heap.size AA 5 ca rsA
 s2:Sl 2 encR W W.heap.size AB 0 cb []
theorem WK.later{w W W':World}{B1 B2:Nat}{AA AB:Option Addr}{ca cb:Nat}(h:WK w W B1 B2 AA AB ca cb)(hb:Below W.heap.size W W'):WK w W' B1 B2 AA AB ca cb:=⟨Below.later h.bel hb,h.b1.later hb,h.b2.later hb,h.s1.later hb,h.s2.later hb⟩
section
variable{w W:World}{B1 B2:Nat}{AA AB:Option Addr}{ca cb:Nat}
theorem rs_ok:RsOk rsA:=(yard_ok x_yard).2
theorem t_ch(h:WK w W B1 B2 AA AB ca cb){G:Option Addr}{n c:Nat}{xs:List Int}{v e:Int}(hs:Sl 1 encI W W.heap.size G n c xs)(hx:hoursE 2 rsA xs=e/\hoursV 2 rsA xs=v):
 Calls Tryz.prog 160 #[.agg #[.int .i64 2,.slice AA 5 ca],.slice G n c] W λr w'=>r=.returned (.tuple #[.int .i64 v,.int .i64 e])/\Below W.heap.size W w':=by
 have:=checkHours_any 2 AA 5 ca rsA G n c xs W h.s1 hs
 rw[hx.1,hx.2]at this
 exact this
theorem t_rch(h:WK w W B1 B2 AA AB ca cb){G:Option Addr}{n c:Nat}{xs:List Int}{v e:Int}(hs:Sl 1 encI W W.heap.size G n c xs)(hx:hoursE 2 rsA xs=e/\hoursV 2 rsA xs=v):
 Calls Tryz.prog 11 #[.agg #[.int .i64 2,.slice AA 5 ca],.slice G n c] W λr w'=>r=.returned (.tuple #[.int .i64 v,.int .i64 e])/\Below W.heap.size W w':=by
 have:=refHours_any 2 AA 5 ca rsA G n c xs W h.s1 hs
 rw[hx.1,hx.2]at this
 exact this
theorem t_cp(h:WK w W B1 B2 AA AB ca cb){G:Option Addr}{n c:Nat}{xs:List Rg}{v e:Int}(hs:Sl 2 encR W W.heap.size G n c xs)(hx:proofE 2 rsA xs=e/\proofV 2 rsA xs=v):
 Calls Tryz.prog 164 #[.agg #[.int .i64 2,.slice AA 5 ca],.slice G n c] W λr w'=>r=.returned (.tuple #[.int .i64 v,.int .i64 e])/\Below W.heap.size W w':=by
 have:=checkProof_any 2 AA 5 ca rsA G n c xs W h.s1 hs
 rw[hx.1,hx.2]at this
 exact this
theorem t_rcp(h:WK w W B1 B2 AA AB ca cb){G:Option Addr}{n c:Nat}{xs:List Rg}{v e:Int}(hs:Sl 2 encR W W.heap.size G n c xs)(hx:proofE 2 rsA xs=e/\proofV 2 rsA xs=v):
 Calls Tryz.prog 169 #[.agg #[.int .i64 2,.slice AA 5 ca],.slice G n c] W λr w'=>r=.returned (.tuple #[.int .i64 v,.int .i64 e])/\Below W.heap.size W w':=by
 have:=refProof_any 2 AA 5 ca rsA G n c xs W h.s1 hs
 rw[hx.1,hx.2]at this
 exact this
theorem t_nd(h:WK w W B1 B2 AA AB ca cb){wd:Rg}{v e:Int}(hx:needE 2 rsA wd=e/\needV 2 rsA wd=v):
 Calls Tryz.prog 162 #[.agg #[.int .i64 2,.slice AA 5 ca],.agg #[.int .i64 wd.lo,.int .i64 wd.hi]] W λr w'=>r=.returned (.tuple #[.int .i64 v,.int .i64 e])/\Below W.heap.size W w':=by
 have:=needC_any 2 AA 5 ca rsA wd W h.s1
 rw[hx.1,hx.2]at this
 exact this
theorem t_few(h:WK w W B1 B2 AA AB ca cb):Calls Tryz.prog 8 #[.agg #[.int .i64 2,.slice AA 5 ca]] W λr w'=>r=.returned (.tuple #[.int .i64 3,.int .i64 0])/\Below W.heap.size W w':=by
 have:=fewest_any 2 AA 5 ca rsA W h.s1
 rw[x_few,x_yard]at this
 exact this
theorem t_few0(h:WK w W B1 B2 AA AB ca cb):Calls Tryz.prog 8 #[.agg #[.int .i64 1,.slice AB 0 cb]] W λr w'=>r=.returned (.tuple #[.int .i64 0,.int .i64 0])/\Below W.heap.size W w':=by
 have:=fewest_any 1 AB 0 cb [] W h.s2
 rw[x_few0,x_yard0]at this
 exact this
theorem t_hours(h:WK w W B1 B2 AA AB ca cb):Calls Tryz.prog 9 #[.agg #[.int .i64 2,.slice AA 5 ca]] W λr w'=>∃g hs,r=.returned (.tuple #[.slice (some ⟨g,0,none⟩) 5 5,.int .i64 0])/\Below W.heap.size W w'/\Sl 1 encI w' w'.heap.size (some ⟨g,0,none⟩) 5 5 hs/\hoursE 2 rsA hs=0/\hoursV 2 rsA hs=3:=by
 refine(hours_ok 2 AA ca rsA W h.s1 x_yard).mono ?_
 rintro e w'⟨g,l,ts,H,rfl,hb,hok,hsl⟩
 have h1:=fill_hours hok rs_ok ⟨by omega,by omega⟩
 rw[x_la]at h1
 exact⟨g,_,rfl,hb,hsl,h1.1,h1.2⟩
theorem t_proof(h:WK w W B1 B2 AA AB ca cb):Calls Tryz.prog 166 #[.agg #[.int .i64 2,.slice AA 5 ca]] W λr w'=>∃g ws,r=.returned (.tuple #[.slice (some ⟨g,0,none⟩) ws.length ws.length,.int .i64 0])/\Below W.heap.size W w'/\Sl 2 encR w' w'.heap.size (some ⟨g,0,none⟩) ws.length ws.length ws/\proofE 2 rsA ws=0/\proofV 2 rsA ws=3:=by
 refine(proofC_ok 2 AA ca rsA W h.s1 x_yard).mono ?_
 rintro e w'⟨g,ws,rfl,hb,hsl,hch⟩
 have h1:=chain_proof rs_ok ⟨by omega,by omega⟩ hch
 rw[x_la]at h1
 exact⟨g,ws,rfl,hb,hsl,h1.1.2,h1.2⟩
theorem t_early(h:WK w W B1 B2 AA AB ca cb):Calls Tryz.prog 167 #[.agg #[.int .i64 2,.slice AA 5 ca]] W λr w'=>∃G c,r=.returned (.tuple #[.slice G 3 c,.int .i64 0])/\Below W.heap.size W w'/\Sl 1 encI w' w'.heap.size G 3 c [2,4,7]:=by
 have h0:=early_any 2 AA 5 ca rsA W h.s1
 rw[x_yard,x_e]at h0
 refine h0.mono ?_
 rintro e w'⟨v,rfl,hb,hown⟩
 obtain⟨G,c,rfl,hsl⟩:=own_slI hown rfl
 exact⟨G,c,rfl,hb,hsl⟩
theorem t_late(h:WK w W B1 B2 AA AB ca cb):Calls Tryz.prog 25 #[.agg #[.int .i64 2,.slice AA 5 ca]] W λr w'=>∃G c,r=.returned (.tuple #[.slice G 3 c,.int .i64 0])/\Below W.heap.size W w'/\Sl 1 encI w' w'.heap.size G 3 c [4,7,9]:=by
 have h0:=late_any 2 AA 5 ca rsA W h.s1
 rw[x_yard,x_l]at h0
 refine h0.mono ?_
 rintro e w'⟨v,rfl,hb,hown,_⟩
 obtain⟨G,c,rfl,hsl⟩:=own_slI hown rfl
 exact⟨G,c,rfl,hb,hsl⟩
theorem t_keep(h:WK w W B1 B2 AA AB ca cb):Calls Tryz.prog 168 #[.agg #[.int .i64 2,.slice AA 5 ca],.int .i64 2] W λr w'=>∃G c,r=.returned (.tuple #[.slice G 4 c,.int .i64 0])/\Below W.heap.size W w'/\Sl 1 encI w' w'.heap.size G 4 c [0,1,2,3]:=by
 have h0:=keep_any 2 AA 5 ca rsA 2 W h.s1
 rw[x_k1.1,x_k1.2]at h0
 refine h0.mono ?_
 rintro e w'⟨v,rfl,hb,hown⟩
 obtain⟨G,c,rfl,hsl⟩:=own_slI (ts:=[0,1,2,3]) (n:=4) hown rfl
 exact⟨G,c,rfl,hb,hsl⟩
theorem t_keep2(h:WK w W B1 B2 AA AB ca cb):Calls Tryz.prog 168 #[.agg #[.int .i64 2,.slice AA 5 ca],.int .i64 11] W λr w'=>∃v,r=.returned (.tuple #[v,.int .i64 3])/\Below W.heap.size W w':=by
 have h0:=keep_any 2 AA 5 ca rsA 11 W h.s1
 rw[x_k2.1,x_k2.2]at h0
 refine h0.mono ?_
 rintro e w'⟨v,rfl,hb,_⟩
 exact⟨v,rfl,hb⟩
end
def IsRgs(xs:List Rg)(v:Value)(W:World):Prop:=∃G n c,v=.slice G n c/\Sl 2 encR W W.heap.size G n c xs
theorem IsRgs.stab{xs:List Rg}:∀v W W',Gr W W'->IsRgs xs v W->IsRgs xs v W':=λ_ _ _ hG⟨G,n,c,h1,h2⟩=>⟨G,n,c,h1,h2.later hG⟩
theorem rgs_sl{W:World}{B b:Nat}{t:TypeId}{x y:Rg}(h:Blk W b t #[.int .i64 x.lo,.int .i64 x.hi,.int .i64 y.lo,.int .i64 y.hi])(hb:b<B):Sl 2 encR W B (some ⟨b,0,none⟩) 2 2 [x,y]:=
 ⟨rfl,Nat.le_refl _,by omega,λ_=>⟨b,0,rfl,hb,λi z hz j u hu=>by
   rw[h.cell]
   match i,hz with
   |0,rfl=>match j,hu with
    |0,rfl=>rfl
    |1,rfl=>rfl
   |1,rfl=>match j,hu with
    |0,rfl=>rfl
    |1,rfl=>rfl⟩⟩
theorem eqL{W:World}{A B:Option Addr}{n m c d:Nat}{xs:List Int}(h1:Sl 1 encI W W.heap.size A n c xs)(h2:Sl 1 encI W W.heap.size B m d xs):Calls Tryz.prog 170 #[.slice A n c,.slice B m d] W λe w'=>e=.returned (.bool true)/\Below W.heap.size W w':=by
 have:=longsEq_any A n c xs B m d xs W h1 h2
 rw[decide_eq_true rfl]at this
 exact this
theorem eqI{W:World}{A B:Option Addr}{n m c d:Nat}{xs:List Int}(h1:Sl 1 encI W W.heap.size A n c xs)(h2:Sl 1 encI W W.heap.size B m d xs):Calls Tryz.prog 171 #[.slice A n c,.slice B m d] W λe w'=>e=.returned (.bool true)/\Below W.heap.size W w':=by
 have:=intsEq_any A n c xs B m d xs W h1 h2
 rw[decide_eq_true rfl]at this
 exact this
theorem lit3{U w:World}{t:TypeId}(xs:List Int)(n:Nat)(hb:Below (U.alloc (.cells (xs.map (Value.int .i64)).toArray t)).heap.size (U.alloc (.cells (xs.map (Value.int .i64)).toArray t)) w)(hn:xs.length=n)(h2:n<=1000):Sl 1 encI w w.heap.size (some ⟨U.heap.size,0,none⟩) n n xs/\Below U.heap.size U w:=
 ⟨(lit_sl (Blk.new U t _) (by simp) hn h2).later hb,Below.later (balloc (brefl _) _) hb⟩
set_option maxRecDepth 100000 in
set_option maxHeartbeats 16000000 in
theorem works_any(w:World):Calls Tryz.prog 62 #[] w λe w'=>e=.returned (.bool true)/\Below w.heap.size w w':=by
 go_enter Tryz.func62,Tryz.ntmps62
 go_wp2_with fail
 refine(five_any _).mono ?_
 rintro e w1⟨AA,ca,rfl,hb1,hs1⟩
 have HB1:=Lib.hid hb1
 have HS1:=Lib.hid hs1
 clear hb1 hs1
 go_wp2_with fail
 refine(none_any _).mono ?_
 rintro e w2⟨AB,cb,rfl,hb2,hs2⟩
 have hbl:=Blk.new (w2.alloc (.cells #[.int .i64 2,.slice AA 5 ca] 30)) 30 #[.int .i64 1,.slice AB 0 cb]
 rw[World.size_alloc]at hbl
 have HK:=Lib.hid (show WK w ((w2.alloc (.cells #[.int .i64 2,.slice AA 5 ca] 30)).alloc (.cells #[.int .i64 1,.slice AB 0 cb] 30)) w2.heap.size (w2.heap.size+1) AA AB ca cb from⟨balloc (balloc (Below.later HB1.out hb2) _) _,(Blk.new w2 _ _).alloc _,hbl,(HS1.out.later hb2).later (balloc (balloc (brefl w2) _) _),hs2.later (balloc (balloc (brefl w2) _) _)⟩)
 clear hb2 hs2 hbl HB1 HS1
 go_wp2_with fail
 generalize hW0:(w2.alloc (.cells #[.int .i64 2,.slice AA 5 ca] 30)).alloc (.cells #[.int .i64 1,.slice AB 0 cb] 30)=W0 at*
 obtain⟨B1,hB1⟩:∃B1,w2.heap.size=B1:=⟨_,rfl⟩
 rw[hB1]at HK ⊢
 obtain⟨B2,hB2⟩:∃B2,B1+1=B2:=⟨_,rfl⟩
 rw[hB2]at HK ⊢
 clear hW0 hB1 hB2
 clear w2 w1
 have c0:=HK.out.b1.cell 0
 have c1:=HK.out.b1.cell 1
 have c2:=HK.out.b1.lt
 have d0:=HK.out.b2.cell 0
 have d1:=HK.out.b2.cell 1
 have d2:=HK.out.b2.lt
 refine dag 9 (by kernel_rfl) (by kernel_rfl) (.is ?_::.like (IsInts 5 [2,4,4,7,7])::.like (IsInts 5 [2,4,4,7,7])::.is (.tuple #[.int .i64 3,.int .i64 0])::.is ?_::.is ?_::.is ?_::.is ?_::.is ?_::[]) rfl ?st1 ?ob1
 case st1=>repeat (first|exact stab_nil|refine stab_is ?_|refine stab_like IsInts.stab ?_)
 case ob1=>
 intro env1 V1 hG
 obtain⟨hc,hf⟩:=bcell hG
 have HG:=Lib.hid hG
 clear hG
 iterate 1 (refine obI ?_ ?_;unfold dsA;go_simp;(try go_bits);(first|(refine⟨brefl _,?_⟩;rfl)|rfl);intro K hK;go_simp;refine hK _ ?_;clear hK K)
 refine obls_like (λ_=>?_) ?_
 ·unfold dsA
  go_simp
  exact⟨balloc (brefl _) _,_,_,rfl,lit_sl (xs:=[2,4,4,7,7]) (Blk.new _ _ _) (by simp) rfl (by omega)⟩
 intro K hK
 go_simp
 refine hK _ ?_
 clear hK K
 refine obls_like (λhl=>?_) ?_
 ·obtain⟨G,c,hE,hsl⟩:IsInts 5 [2,4,4,7,7] (env1 1) V1:=hl ⟨1,.data⟩ (by simp) rfl
  have Hsl:=Lib.hid hsl
  clear hsl
  unfold dsA
  go_simp
  refine(longs_any G 5 c V1).mono ?_
  rintro e w3⟨rfl,hb3⟩
  exact⟨_,rfl,hb3,G,c,rfl,Hsl.out.later hb3⟩
 intro K hK
 go_simp
 refine hK _ ?_
 clear hK K
 refine obls_isL (λhl=>?_) ?_
 ·obtain⟨G,c,hE,hsl⟩:IsInts 5 [2,4,4,7,7] (env1 2) V1:=hl ⟨2,.data⟩ (by simp) rfl
  have Hsl:=Lib.hid hsl
  clear hsl
  unfold dsA
  go_simp
  refine(t_ch (HK.out.later HG.out) Hsl.out x_h1).mono ?_
  rintro e w3⟨rfl,hb3⟩
  exact⟨rfl,hb3⟩
 intro K hK
 go_simp
 refine hK _ ?_
 clear hK K
 repeat (refine obI ?_ ?_;unfold dsA;go_simp;(try go_bits);(first|(refine⟨brefl _,?_⟩;rfl)|rfl);intro K hK;go_simp;refine hK _ ?_;clear hK K)
 refine obN (λ_=>?_)
 clear c0 c1 c2 d0 d1 d2
 have HKn:=Lib.hid (HK.out.later HG.out)
 clear HK
 have HK:=HKn
 clear HKn
 clear hc hf HG
 have c0:=HK.out.b1.cell 0
 have c1:=HK.out.b1.cell 1
 have c2:=HK.out.b1.lt
 have d0:=HK.out.b2.cell 0
 have d1:=HK.out.b2.cell 1
 have d2:=HK.out.b2.lt
 go_wp2_with fail
 refine dag 9 (by kernel_rfl) (by kernel_rfl) (.is ?_::.like (IsInts 5 [2,4,4,6,7])::.like (IsInts 5 [2,4,4,6,7])::.is (.tuple #[.int .i64 4,.int .i64 0])::.is ?_::.is ?_::.is ?_::.is ?_::.is ?_::[]) rfl ?st2 ?ob2
 case st2=>repeat (first|exact stab_nil|refine stab_is ?_|refine stab_like IsInts.stab ?_)
 case ob2=>
 intro env2 V2 hG
 obtain⟨hc,hf⟩:=bcell hG
 have HG:=Lib.hid hG
 clear hG
 iterate 1 (refine obI ?_ ?_;unfold dsA;go_simp;(try go_bits);(first|(refine⟨brefl _,?_⟩;rfl)|rfl);intro K hK;go_simp;refine hK _ ?_;clear hK K)
 refine obls_like (λ_=>?_) ?_
 ·unfold dsA
  go_simp
  exact⟨balloc (brefl _) _,_,_,rfl,lit_sl (xs:=[2,4,4,6,7]) (Blk.new _ _ _) (by simp) rfl (by omega)⟩
 intro K hK
 go_simp
 refine hK _ ?_
 clear hK K
 refine obls_like (λhl=>?_) ?_
 ·obtain⟨G,c,hE,hsl⟩:IsInts 5 [2,4,4,6,7] (env2 1) V2:=hl ⟨1,.data⟩ (by simp) rfl
  have Hsl:=Lib.hid hsl
  clear hsl
  unfold dsA
  go_simp
  refine(longs_any G 5 c V2).mono ?_
  rintro e w3⟨rfl,hb3⟩
  exact⟨_,rfl,hb3,G,c,rfl,Hsl.out.later hb3⟩
 intro K hK
 go_simp
 refine hK _ ?_
 clear hK K
 refine obls_isL (λhl=>?_) ?_
 ·obtain⟨G,c,hE,hsl⟩:IsInts 5 [2,4,4,6,7] (env2 2) V2:=hl ⟨2,.data⟩ (by simp) rfl
  have Hsl:=Lib.hid hsl
  clear hsl
  unfold dsA
  go_simp
  refine(t_ch (HK.out.later HG.out) Hsl.out x_h2).mono ?_
  rintro e w3⟨rfl,hb3⟩
  exact⟨rfl,hb3⟩
 intro K hK
 go_simp
 refine hK _ ?_
 clear hK K
 repeat (refine obI ?_ ?_;unfold dsA;go_simp;(try go_bits);(first|(refine⟨brefl _,?_⟩;rfl)|rfl);intro K hK;go_simp;refine hK _ ?_;clear hK K)
 refine obN (λ_=>?_)
 clear c0 c1 c2 d0 d1 d2
 have HKn:=Lib.hid (HK.out.later HG.out)
 clear HK
 have HK:=HKn
 clear HKn
 clear hc hf HG
 have c0:=HK.out.b1.cell 0
 have c1:=HK.out.b1.cell 1
 have c2:=HK.out.b1.lt
 have d0:=HK.out.b2.cell 0
 have d1:=HK.out.b2.cell 1
 have d2:=HK.out.b2.lt
 go_wp2_with fail
 refine dag 9 (by kernel_rfl) (by kernel_rfl) (.is ?_::.like (IsInts 4 [2,4,4,7])::.like (IsInts 4 [2,4,4,7])::.is (.tuple #[.int .i64 0,.int .i64 15])::.is ?_::.is ?_::.is ?_::.is ?_::.is ?_::[]) rfl ?st3 ?ob3
 case st3=>repeat (first|exact stab_nil|refine stab_is ?_|refine stab_like IsInts.stab ?_)
 case ob3=>
 intro env3 V3 hG
 obtain⟨hc,hf⟩:=bcell hG
 have HG:=Lib.hid hG
 clear hG
 iterate 1 (refine obI ?_ ?_;unfold dsA;go_simp;(try go_bits);(first|(refine⟨brefl _,?_⟩;rfl)|rfl);intro K hK;go_simp;refine hK _ ?_;clear hK K)
 refine obls_like (λ_=>?_) ?_
 ·unfold dsA
  go_simp
  exact⟨balloc (brefl _) _,_,_,rfl,lit_sl (xs:=[2,4,4,7]) (Blk.new _ _ _) (by simp) rfl (by omega)⟩
 intro K hK
 go_simp
 refine hK _ ?_
 clear hK K
 refine obls_like (λhl=>?_) ?_
 ·obtain⟨G,c,hE,hsl⟩:IsInts 4 [2,4,4,7] (env3 1) V3:=hl ⟨1,.data⟩ (by simp) rfl
  have Hsl:=Lib.hid hsl
  clear hsl
  unfold dsA
  go_simp
  refine(longs_any G 4 c V3).mono ?_
  rintro e w3⟨rfl,hb3⟩
  exact⟨_,rfl,hb3,G,c,rfl,Hsl.out.later hb3⟩
 intro K hK
 go_simp
 refine hK _ ?_
 clear hK K
 refine obls_isL (λhl=>?_) ?_
 ·obtain⟨G,c,hE,hsl⟩:IsInts 4 [2,4,4,7] (env3 2) V3:=hl ⟨2,.data⟩ (by simp) rfl
  have Hsl:=Lib.hid hsl
  clear hsl
  unfold dsA
  go_simp
  refine(t_ch (HK.out.later HG.out) Hsl.out x_h3).mono ?_
  rintro e w3⟨rfl,hb3⟩
  exact⟨rfl,hb3⟩
 intro K hK
 go_simp
 refine hK _ ?_
 clear hK K
 repeat (refine obI ?_ ?_;unfold dsA;go_simp;(try go_bits);(first|(refine⟨brefl _,?_⟩;rfl)|rfl);intro K hK;go_simp;refine hK _ ?_;clear hK K)
 refine obN (λ_=>?_)
 clear c0 c1 c2 d0 d1 d2
 have HKn:=Lib.hid (HK.out.later HG.out)
 clear HK
 have HK:=HKn
 clear HKn
 clear hc hf HG
 have c0:=HK.out.b1.cell 0
 have c1:=HK.out.b1.cell 1
 have c2:=HK.out.b1.lt
 have d0:=HK.out.b2.cell 0
 have d1:=HK.out.b2.cell 1
 have d2:=HK.out.b2.lt
 go_wp2_with fail
 refine dag 9 (by kernel_rfl) (by kernel_rfl) (.is ?_::.like (IsInts 5 [2,4,4,7,8])::.like (IsInts 5 [2,4,4,7,8])::.is (.tuple #[.int .i64 0,.int .i64 19])::.is ?_::.is ?_::.is ?_::.is ?_::.is ?_::[]) rfl ?st4 ?ob4
 case st4=>repeat (first|exact stab_nil|refine stab_is ?_|refine stab_like IsInts.stab ?_)
 case ob4=>
 intro env4 V4 hG
 obtain⟨hc,hf⟩:=bcell hG
 have HG:=Lib.hid hG
 clear hG
 iterate 1 (refine obI ?_ ?_;unfold dsA;go_simp;(try go_bits);(first|(refine⟨brefl _,?_⟩;rfl)|rfl);intro K hK;go_simp;refine hK _ ?_;clear hK K)
 refine obls_like (λ_=>?_) ?_
 ·unfold dsA
  go_simp
  exact⟨balloc (brefl _) _,_,_,rfl,lit_sl (xs:=[2,4,4,7,8]) (Blk.new _ _ _) (by simp) rfl (by omega)⟩
 intro K hK
 go_simp
 refine hK _ ?_
 clear hK K
 refine obls_like (λhl=>?_) ?_
 ·obtain⟨G,c,hE,hsl⟩:IsInts 5 [2,4,4,7,8] (env4 1) V4:=hl ⟨1,.data⟩ (by simp) rfl
  have Hsl:=Lib.hid hsl
  clear hsl
  unfold dsA
  go_simp
  refine(longs_any G 5 c V4).mono ?_
  rintro e w3⟨rfl,hb3⟩
  exact⟨_,rfl,hb3,G,c,rfl,Hsl.out.later hb3⟩
 intro K hK
 go_simp
 refine hK _ ?_
 clear hK K
 refine obls_isL (λhl=>?_) ?_
 ·obtain⟨G,c,hE,hsl⟩:IsInts 5 [2,4,4,7,8] (env4 2) V4:=hl ⟨2,.data⟩ (by simp) rfl
  have Hsl:=Lib.hid hsl
  clear hsl
  unfold dsA
  go_simp
  refine(t_ch (HK.out.later HG.out) Hsl.out x_h4).mono ?_
  rintro e w3⟨rfl,hb3⟩
  exact⟨rfl,hb3⟩
 intro K hK
 go_simp
 refine hK _ ?_
 clear hK K
 repeat (refine obI ?_ ?_;unfold dsA;go_simp;(try go_bits);(first|(refine⟨brefl _,?_⟩;rfl)|rfl);intro K hK;go_simp;refine hK _ ?_;clear hK K)
 refine obN (λ_=>?_)
 clear c0 c1 c2 d0 d1 d2
 have HKn:=Lib.hid (HK.out.later HG.out)
 clear HK
 have HK:=HKn
 clear HKn
 clear hc hf HG
 have c0:=HK.out.b1.cell 0
 have c1:=HK.out.b1.cell 1
 have c2:=HK.out.b1.lt
 have d0:=HK.out.b2.cell 0
 have d1:=HK.out.b2.cell 1
 have d2:=HK.out.b2.lt
 go_wp2_with fail
 refine(t_few HK.out).mono ?_
 rintro e U5⟨rfl,hb⟩
 clear c0 c1 c2 d0 d1 d2
 have HKn:=Lib.hid (HK.out.later hb)
 clear HK
 have HK:=HKn
 clear HKn
 clear hb
 have c0:=HK.out.b1.cell 0
 have c1:=HK.out.b1.cell 1
 have c2:=HK.out.b1.lt
 have d0:=HK.out.b2.cell 0
 have d1:=HK.out.b2.cell 1
 have d2:=HK.out.b2.lt
 go_wp2_with fail
 refine(t_few0 HK.out).mono ?_
 rintro e U6⟨rfl,hb⟩
 clear c0 c1 c2 d0 d1 d2
 have HKn:=Lib.hid (HK.out.later hb)
 clear HK
 have HK:=HKn
 clear HKn
 clear hb
 have c0:=HK.out.b1.cell 0
 have c1:=HK.out.b1.cell 1
 have c2:=HK.out.b1.lt
 have d0:=HK.out.b2.cell 0
 have d1:=HK.out.b2.cell 1
 have d2:=HK.out.b2.lt
 go_wp2_with fail
 refine(t_hours HK.out).mono ?_
 rintro e U7⟨g1,hs1,rfl,hb,hsl,he⟩
 clear c0 c1 c2 d0 d1 d2
 have HKn:=Lib.hid (HK.out.later hb)
 clear HK
 have HK:=HKn
 clear HKn
 have FH:=Lib.hid hsl
 have FE:=Lib.hid he
 clear hb hsl he
 have c0:=HK.out.b1.cell 0
 have c1:=HK.out.b1.cell 1
 have c2:=HK.out.b1.lt
 have d0:=HK.out.b2.cell 0
 have d1:=HK.out.b2.cell 1
 have d2:=HK.out.b2.lt
 go_wp2_with fail
 refine dag 8 (by kernel_rfl) (by kernel_rfl) (.is ?_::.is (.agg #[.int .i64 2,.int .i64 9])::.is (.tuple #[.int .i64 3,.int .i64 0])::.is ?_::.is ?_::.is ?_::.is ?_::.is ?_::[]) rfl ?st8 ?ob8
 case st8=>repeat (first|exact stab_nil|refine stab_is ?_)
 case ob8=>
 intro env8 V8 hG
 obtain⟨hc,hf⟩:=bcell hG
 have HG:=Lib.hid hG
 clear hG
 iterate 1 (refine obI ?_ ?_;unfold dsA;go_simp;(try go_bits);(first|(refine⟨brefl _,?_⟩;rfl)|rfl);intro K hK;go_simp;refine hK _ ?_;clear hK K)
 refine obI ?_ ?_
 ·unfold dsA
  go_simp
  refine(to_any 2 9 V8).mono ?_
  rintro e w3⟨rfl,rfl⟩
  exact⟨rfl,balloc (brefl _) _⟩
 intro K hK
 go_simp
 refine hK _ ?_
 clear hK K
 refine obI ?_ ?_
 ·unfold dsA
  go_simp
  refine(t_nd (HK.out.later HG.out) x_n1).mono ?_
  rintro e w3⟨rfl,hb3⟩
  exact⟨rfl,hb3⟩
 intro K hK
 go_simp
 refine hK _ ?_
 clear hK K
 repeat (refine obI ?_ ?_;unfold dsA;go_simp;(try go_bits);(first|(refine⟨brefl _,?_⟩;rfl)|rfl);intro K hK;go_simp;refine hK _ ?_;clear hK K)
 refine obN (λ_=>?_)
 clear c0 c1 c2 d0 d1 d2
 have HKn:=Lib.hid (HK.out.later HG.out)
 have FHn:=Lib.hid (FH.out.later HG.out)
 clear HK FH
 have HK:=HKn
 have FH:=FHn
 clear HKn FHn
 clear hc hf HG
 have c0:=HK.out.b1.cell 0
 have c1:=HK.out.b1.cell 1
 have c2:=HK.out.b1.lt
 have d0:=HK.out.b2.cell 0
 have d1:=HK.out.b2.cell 1
 have d2:=HK.out.b2.lt
 go_wp2_with fail
 refine dag 8 (by kernel_rfl) (by kernel_rfl) (.is ?_::.is (.agg #[.int .i64 9,.int .i64 2])::.is (.tuple #[.int .i64 0,.int .i64 3])::.is ?_::.is ?_::.is ?_::.is ?_::.is ?_::[]) rfl ?st9 ?ob9
 case st9=>repeat (first|exact stab_nil|refine stab_is ?_)
 case ob9=>
 intro env9 V9 hG
 obtain⟨hc,hf⟩:=bcell hG
 have HG:=Lib.hid hG
 clear hG
 iterate 1 (refine obI ?_ ?_;unfold dsA;go_simp;(try go_bits);(first|(refine⟨brefl _,?_⟩;rfl)|rfl);intro K hK;go_simp;refine hK _ ?_;clear hK K)
 refine obI ?_ ?_
 ·unfold dsA
  go_simp
  refine(to_any 9 2 V9).mono ?_
  rintro e w3⟨rfl,rfl⟩
  exact⟨rfl,balloc (brefl _) _⟩
 intro K hK
 go_simp
 refine hK _ ?_
 clear hK K
 refine obI ?_ ?_
 ·unfold dsA
  go_simp
  refine(t_nd (HK.out.later HG.out) x_n2).mono ?_
  rintro e w3⟨rfl,hb3⟩
  exact⟨rfl,hb3⟩
 intro K hK
 go_simp
 refine hK _ ?_
 clear hK K
 repeat (refine obI ?_ ?_;unfold dsA;go_simp;(try go_bits);(first|(refine⟨brefl _,?_⟩;rfl)|rfl);intro K hK;go_simp;refine hK _ ?_;clear hK K)
 refine obN (λ_=>?_)
 clear c0 c1 c2 d0 d1 d2
 have HKn:=Lib.hid (HK.out.later HG.out)
 have FHn:=Lib.hid (FH.out.later HG.out)
 clear HK FH
 have HK:=HKn
 have FH:=FHn
 clear HKn FHn
 clear hc hf HG
 have c0:=HK.out.b1.cell 0
 have c1:=HK.out.b1.cell 1
 have c2:=HK.out.b1.lt
 have d0:=HK.out.b2.cell 0
 have d1:=HK.out.b2.cell 1
 have d2:=HK.out.b2.lt
 go_wp2_with fail
 refine dag 11 (by kernel_rfl) (by kernel_rfl) (.is ?_::.is (.agg #[.int .i64 2,.int .i64 5])::.is (.agg #[.int .i64 6,.int .i64 9])::.like (IsRgs [⟨2,5⟩,⟨6,9⟩])::.like (IsRgs [⟨2,5⟩,⟨6,9⟩])::.is (.tuple #[.int .i64 2,.int .i64 0])::.is ?_::.is ?_::.is ?_::.is ?_::.is ?_::[]) rfl ?st10 ?ob10
 case st10=>repeat (first|exact stab_nil|refine stab_is ?_|refine stab_like IsRgs.stab ?_)
 case ob10=>
 intro env10 V10 hG
 obtain⟨hc,hf⟩:=bcell hG
 have HG:=Lib.hid hG
 clear hG
 iterate 1 (refine obI ?_ ?_;unfold dsA;go_simp;(try go_bits);(first|(refine⟨brefl _,?_⟩;rfl)|rfl);intro K hK;go_simp;refine hK _ ?_;clear hK K)
 refine obI ?_ ?_
 ·unfold dsA
  go_simp
  refine(to_any 2 5 V10).mono ?_
  rintro e w3⟨rfl,rfl⟩
  exact⟨rfl,balloc (brefl _) _⟩
 intro K hK
 go_simp
 refine hK _ ?_
 clear hK K
 refine obI ?_ ?_
 ·unfold dsA
  go_simp
  refine(to_any 6 9 V10).mono ?_
  rintro e w3⟨rfl,rfl⟩
  exact⟨rfl,balloc (brefl _) _⟩
 intro K hK
 go_simp
 refine hK _ ?_
 clear hK K
 refine obls_like (λ_=>?_) ?_
 ·unfold dsA
  go_simp
  exact⟨balloc (brefl _) _,_,_,_,rfl,rgs_sl (x:=⟨2,5⟩) (y:=⟨6,9⟩) (Blk.new _ _ _) (by simp)⟩
 intro K hK
 go_simp
 refine hK _ ?_
 clear hK K
 refine obls_like (λhl=>?_) ?_
 ·obtain⟨G,n,c,hE,hsl⟩:IsRgs [⟨2,5⟩,⟨6,9⟩] (env10 3) V10:=hl ⟨3,.data⟩ (by simp) rfl
  have Hsl:=Lib.hid hsl
  clear hsl
  unfold dsA
  go_simp
  refine(ranges_any G n c V10).mono ?_
  rintro e w3⟨rfl,hb3⟩
  exact⟨_,rfl,hb3,G,n,c,rfl,Hsl.out.later hb3⟩
 intro K hK
 go_simp
 refine hK _ ?_
 clear hK K
 refine obls_isL (λhl=>?_) ?_
 ·obtain⟨G,n,c,hE,hsl⟩:IsRgs [⟨2,5⟩,⟨6,9⟩] (env10 4) V10:=hl ⟨4,.data⟩ (by simp) rfl
  have Hsl:=Lib.hid hsl
  clear hsl
  unfold dsA
  go_simp
  refine(t_cp (HK.out.later HG.out) Hsl.out x_p1).mono ?_
  rintro e w3⟨rfl,hb3⟩
  exact⟨rfl,hb3⟩
 intro K hK
 go_simp
 refine hK _ ?_
 clear hK K
 repeat (refine obI ?_ ?_;unfold dsA;go_simp;(try go_bits);(first|(refine⟨brefl _,?_⟩;rfl)|rfl);intro K hK;go_simp;refine hK _ ?_;clear hK K)
 refine obN (λ_=>?_)
 clear c0 c1 c2 d0 d1 d2
 have HKn:=Lib.hid (HK.out.later HG.out)
 have FHn:=Lib.hid (FH.out.later HG.out)
 clear HK FH
 have HK:=HKn
 have FH:=FHn
 clear HKn FHn
 clear hc hf HG
 have c0:=HK.out.b1.cell 0
 have c1:=HK.out.b1.cell 1
 have c2:=HK.out.b1.lt
 have d0:=HK.out.b2.cell 0
 have d1:=HK.out.b2.cell 1
 have d2:=HK.out.b2.lt
 go_wp2_with fail
 refine dag 11 (by kernel_rfl) (by kernel_rfl) (.is ?_::.is (.agg #[.int .i64 2,.int .i64 5])::.is (.agg #[.int .i64 5,.int .i64 9])::.like (IsRgs [⟨2,5⟩,⟨5,9⟩])::.like (IsRgs [⟨2,5⟩,⟨5,9⟩])::.is (.tuple #[.int .i64 0,.int .i64 16])::.is ?_::.is ?_::.is ?_::.is ?_::.is ?_::[]) rfl ?st11 ?ob11
 case st11=>repeat (first|exact stab_nil|refine stab_is ?_|refine stab_like IsRgs.stab ?_)
 case ob11=>
 intro env11 V11 hG
 obtain⟨hc,hf⟩:=bcell hG
 have HG:=Lib.hid hG
 clear hG
 iterate 1 (refine obI ?_ ?_;unfold dsA;go_simp;(try go_bits);(first|(refine⟨brefl _,?_⟩;rfl)|rfl);intro K hK;go_simp;refine hK _ ?_;clear hK K)
 refine obI ?_ ?_
 ·unfold dsA
  go_simp
  refine(to_any 2 5 V11).mono ?_
  rintro e w3⟨rfl,rfl⟩
  exact⟨rfl,balloc (brefl _) _⟩
 intro K hK
 go_simp
 refine hK _ ?_
 clear hK K
 refine obI ?_ ?_
 ·unfold dsA
  go_simp
  refine(to_any 5 9 V11).mono ?_
  rintro e w3⟨rfl,rfl⟩
  exact⟨rfl,balloc (brefl _) _⟩
 intro K hK
 go_simp
 refine hK _ ?_
 clear hK K
 refine obls_like (λ_=>?_) ?_
 ·unfold dsA
  go_simp
  exact⟨balloc (brefl _) _,_,_,_,rfl,rgs_sl (x:=⟨2,5⟩) (y:=⟨5,9⟩) (Blk.new _ _ _) (by simp)⟩
 intro K hK
 go_simp
 refine hK _ ?_
 clear hK K
 refine obls_like (λhl=>?_) ?_
 ·obtain⟨G,n,c,hE,hsl⟩:IsRgs [⟨2,5⟩,⟨5,9⟩] (env11 3) V11:=hl ⟨3,.data⟩ (by simp) rfl
  have Hsl:=Lib.hid hsl
  clear hsl
  unfold dsA
  go_simp
  refine(ranges_any G n c V11).mono ?_
  rintro e w3⟨rfl,hb3⟩
  exact⟨_,rfl,hb3,G,n,c,rfl,Hsl.out.later hb3⟩
 intro K hK
 go_simp
 refine hK _ ?_
 clear hK K
 refine obls_isL (λhl=>?_) ?_
 ·obtain⟨G,n,c,hE,hsl⟩:IsRgs [⟨2,5⟩,⟨5,9⟩] (env11 4) V11:=hl ⟨4,.data⟩ (by simp) rfl
  have Hsl:=Lib.hid hsl
  clear hsl
  unfold dsA
  go_simp
  refine(t_cp (HK.out.later HG.out) Hsl.out x_p2).mono ?_
  rintro e w3⟨rfl,hb3⟩
  exact⟨rfl,hb3⟩
 intro K hK
 go_simp
 refine hK _ ?_
 clear hK K
 repeat (refine obI ?_ ?_;unfold dsA;go_simp;(try go_bits);(first|(refine⟨brefl _,?_⟩;rfl)|rfl);intro K hK;go_simp;refine hK _ ?_;clear hK K)
 refine obN (λ_=>?_)
 clear c0 c1 c2 d0 d1 d2
 have HKn:=Lib.hid (HK.out.later HG.out)
 have FHn:=Lib.hid (FH.out.later HG.out)
 clear HK FH
 have HK:=HKn
 have FH:=FHn
 clear HKn FHn
 clear hc hf HG
 have c0:=HK.out.b1.cell 0
 have c1:=HK.out.b1.cell 1
 have c2:=HK.out.b1.lt
 have d0:=HK.out.b2.cell 0
 have d1:=HK.out.b2.cell 1
 have d2:=HK.out.b2.lt
 go_wp2_with fail
 refine(t_proof HK.out).mono ?_
 rintro e U12⟨g2,ws2,rfl,hb,hsl,he⟩
 clear c0 c1 c2 d0 d1 d2
 have HKn:=Lib.hid (HK.out.later hb)
 have FHn:=Lib.hid (FH.out.later hb)
 clear HK FH
 have HK:=HKn
 have FH:=FHn
 clear HKn FHn
 have FP:=Lib.hid hsl
 have FQ:=Lib.hid he
 clear hb hsl he
 have c0:=HK.out.b1.cell 0
 have c1:=HK.out.b1.cell 1
 have c2:=HK.out.b1.lt
 have d0:=HK.out.b2.cell 0
 have d1:=HK.out.b2.cell 1
 have d2:=HK.out.b2.lt
 go_wp2_with fail
 refine(t_early HK.out).mono ?_
 rintro e U13⟨G3,c3,rfl,hb,hsl⟩
 clear c0 c1 c2 d0 d1 d2
 have HKn:=Lib.hid (HK.out.later hb)
 have FHn:=Lib.hid (FH.out.later hb)
 have FPn:=Lib.hid (FP.out.later hb)
 clear HK FH FP
 have HK:=HKn
 have FH:=FHn
 have FP:=FPn
 clear HKn FHn FPn
 have FA:=Lib.hid hsl
 clear hb hsl
 have c0:=HK.out.b1.cell 0
 have c1:=HK.out.b1.cell 1
 have c2:=HK.out.b1.lt
 have d0:=HK.out.b2.cell 0
 have d1:=HK.out.b2.cell 1
 have d2:=HK.out.b2.lt
 go_wp2_with fail
 refine(t_late HK.out).mono ?_
 rintro e U14⟨G4,c4,rfl,hb,hsl⟩
 clear c0 c1 c2 d0 d1 d2
 have HKn:=Lib.hid (HK.out.later hb)
 have FHn:=Lib.hid (FH.out.later hb)
 have FPn:=Lib.hid (FP.out.later hb)
 have FAn:=Lib.hid (FA.out.later hb)
 clear HK FH FP FA
 have HK:=HKn
 have FH:=FHn
 have FP:=FPn
 have FA:=FAn
 clear HKn FHn FPn FAn
 have FL:=Lib.hid hsl
 clear hb hsl
 have c0:=HK.out.b1.cell 0
 have c1:=HK.out.b1.cell 1
 have c2:=HK.out.b1.lt
 have d0:=HK.out.b2.cell 0
 have d1:=HK.out.b2.cell 1
 have d2:=HK.out.b2.lt
 go_wp2_with fail
 refine(t_keep HK.out).mono ?_
 rintro e U15⟨G5,c5,rfl,hb,hsl⟩
 clear c0 c1 c2 d0 d1 d2
 have HKn:=Lib.hid (HK.out.later hb)
 have FHn:=Lib.hid (FH.out.later hb)
 have FPn:=Lib.hid (FP.out.later hb)
 have FAn:=Lib.hid (FA.out.later hb)
 have FLn:=Lib.hid (FL.out.later hb)
 clear HK FH FP FA FL
 have HK:=HKn
 have FH:=FHn
 have FP:=FPn
 have FA:=FAn
 have FL:=FLn
 clear HKn FHn FPn FAn FLn
 have FK:=Lib.hid hsl
 clear hb hsl
 have c0:=HK.out.b1.cell 0
 have c1:=HK.out.b1.cell 1
 have c2:=HK.out.b1.lt
 have d0:=HK.out.b2.cell 0
 have d1:=HK.out.b2.cell 1
 have d2:=HK.out.b2.lt
 go_wp2_with fail
 refine(t_keep2 HK.out).mono ?_
 rintro e U16⟨v6,rfl,hb⟩
 clear c0 c1 c2 d0 d1 d2
 have HKn:=Lib.hid (HK.out.later hb)
 have FHn:=Lib.hid (FH.out.later hb)
 have FPn:=Lib.hid (FP.out.later hb)
 have FAn:=Lib.hid (FA.out.later hb)
 have FLn:=Lib.hid (FL.out.later hb)
 have FKn:=Lib.hid (FK.out.later hb)
 clear HK FH FP FA FL FK
 have HK:=HKn
 have FH:=FHn
 have FP:=FPn
 have FA:=FAn
 have FL:=FLn
 have FK:=FKn
 clear HKn FHn FPn FAn FLn FKn
 clear hb
 have c0:=HK.out.b1.cell 0
 have c1:=HK.out.b1.cell 1
 have c2:=HK.out.b1.lt
 have d0:=HK.out.b2.cell 0
 have d1:=HK.out.b2.cell 1
 have d2:=HK.out.b2.lt
 go_wp2_with fail
 refine(t_rch HK.out FH.out FE.out).mono ?_
 rintro e U17⟨rfl,hb⟩
 clear c0 c1 c2 d0 d1 d2
 have HKn:=Lib.hid (HK.out.later hb)
 have FHn:=Lib.hid (FH.out.later hb)
 have FPn:=Lib.hid (FP.out.later hb)
 have FAn:=Lib.hid (FA.out.later hb)
 have FLn:=Lib.hid (FL.out.later hb)
 have FKn:=Lib.hid (FK.out.later hb)
 clear HK FH FP FA FL FK
 have HK:=HKn
 have FH:=FHn
 have FP:=FPn
 have FA:=FAn
 have FL:=FLn
 have FK:=FKn
 clear HKn FHn FPn FAn FLn FKn
 clear hb
 have c0:=HK.out.b1.cell 0
 have c1:=HK.out.b1.cell 1
 have c2:=HK.out.b1.lt
 have d0:=HK.out.b2.cell 0
 have d1:=HK.out.b2.cell 1
 have d2:=HK.out.b2.lt
 go_wp2_with fail
 refine(t_rcp HK.out FP.out FQ.out).mono ?_
 rintro e U18⟨rfl,hb⟩
 clear c0 c1 c2 d0 d1 d2
 have HKn:=Lib.hid (HK.out.later hb)
 have FHn:=Lib.hid (FH.out.later hb)
 have FPn:=Lib.hid (FP.out.later hb)
 have FAn:=Lib.hid (FA.out.later hb)
 have FLn:=Lib.hid (FL.out.later hb)
 have FKn:=Lib.hid (FK.out.later hb)
 clear HK FH FP FA FL FK
 have HK:=HKn
 have FH:=FHn
 have FP:=FPn
 have FA:=FAn
 have FL:=FLn
 have FK:=FKn
 clear HKn FHn FPn FAn FLn FKn
 clear hb
 have c0:=HK.out.b1.cell 0
 have c1:=HK.out.b1.cell 1
 have c2:=HK.out.b1.lt
 have d0:=HK.out.b2.cell 0
 have d1:=HK.out.b2.cell 1
 have d2:=HK.out.b2.lt
 go_wp2_with fail
 refine(longs_any _ 3 3 _).mono ?_
 rintro e U19⟨rfl,hb0⟩
 obtain⟨hsl,hb⟩:=lit3 [2,4,7] 3 hb0 rfl (by omega)
 clear c0 c1 c2 d0 d1 d2
 have HKn:=Lib.hid (HK.out.later hb)
 have FHn:=Lib.hid (FH.out.later hb)
 have FPn:=Lib.hid (FP.out.later hb)
 have FAn:=Lib.hid (FA.out.later hb)
 have FLn:=Lib.hid (FL.out.later hb)
 have FKn:=Lib.hid (FK.out.later hb)
 clear HK FH FP FA FL FK
 have HK:=HKn
 have FH:=FHn
 have FP:=FPn
 have FA:=FAn
 have FL:=FLn
 have FK:=FKn
 clear HKn FHn FPn FAn FLn FKn
 have HX:=Lib.hid hsl
 clear hb hb0 hsl
 go_wp2_with fail
 refine(eqL FA.out HX.out).mono ?_
 clear HX
 rintro e U19b⟨rfl,hb⟩
 have HKn:=Lib.hid (HK.out.later hb)
 have FHn:=Lib.hid (FH.out.later hb)
 have FPn:=Lib.hid (FP.out.later hb)
 have FAn:=Lib.hid (FA.out.later hb)
 have FLn:=Lib.hid (FL.out.later hb)
 have FKn:=Lib.hid (FK.out.later hb)
 clear HK FH FP FA FL FK
 have HK:=HKn
 have FH:=FHn
 have FP:=FPn
 have FA:=FAn
 have FL:=FLn
 have FK:=FKn
 clear HKn FHn FPn FAn FLn FKn
 clear hb
 have c0:=HK.out.b1.cell 0
 have c1:=HK.out.b1.cell 1
 have c2:=HK.out.b1.lt
 have d0:=HK.out.b2.cell 0
 have d1:=HK.out.b2.cell 1
 have d2:=HK.out.b2.lt
 go_wp2_with fail
 refine(longs_any _ 3 3 _).mono ?_
 rintro e U20⟨rfl,hb0⟩
 obtain⟨hsl,hb⟩:=lit3 [4,7,9] 3 hb0 rfl (by omega)
 clear c0 c1 c2 d0 d1 d2
 have HKn:=Lib.hid (HK.out.later hb)
 have FHn:=Lib.hid (FH.out.later hb)
 have FPn:=Lib.hid (FP.out.later hb)
 have FAn:=Lib.hid (FA.out.later hb)
 have FLn:=Lib.hid (FL.out.later hb)
 have FKn:=Lib.hid (FK.out.later hb)
 clear HK FH FP FA FL FK
 have HK:=HKn
 have FH:=FHn
 have FP:=FPn
 have FA:=FAn
 have FL:=FLn
 have FK:=FKn
 clear HKn FHn FPn FAn FLn FKn
 have HX:=Lib.hid hsl
 clear hb hb0 hsl
 go_wp2_with fail
 refine(eqL FL.out HX.out).mono ?_
 clear HX
 rintro e U20b⟨rfl,hb⟩
 have HKn:=Lib.hid (HK.out.later hb)
 have FHn:=Lib.hid (FH.out.later hb)
 have FPn:=Lib.hid (FP.out.later hb)
 have FAn:=Lib.hid (FA.out.later hb)
 have FLn:=Lib.hid (FL.out.later hb)
 have FKn:=Lib.hid (FK.out.later hb)
 clear HK FH FP FA FL FK
 have HK:=HKn
 have FH:=FHn
 have FP:=FPn
 have FA:=FAn
 have FL:=FLn
 have FK:=FKn
 clear HKn FHn FPn FAn FLn FKn
 clear hb
 have c0:=HK.out.b1.cell 0
 have c1:=HK.out.b1.cell 1
 have c2:=HK.out.b1.lt
 have d0:=HK.out.b2.cell 0
 have d1:=HK.out.b2.cell 1
 have d2:=HK.out.b2.lt
 go_wp2_with fail
 refine(of__any _ 4 4 _).mono ?_
 rintro e U21⟨rfl,hb0⟩
 obtain⟨hsl,hb⟩:=lit3 [0,1,2,3] 4 hb0 rfl (by omega)
 clear c0 c1 c2 d0 d1 d2
 have HKn:=Lib.hid (HK.out.later hb)
 have FHn:=Lib.hid (FH.out.later hb)
 have FPn:=Lib.hid (FP.out.later hb)
 have FAn:=Lib.hid (FA.out.later hb)
 have FLn:=Lib.hid (FL.out.later hb)
 have FKn:=Lib.hid (FK.out.later hb)
 clear HK FH FP FA FL FK
 have HK:=HKn
 have FH:=FHn
 have FP:=FPn
 have FA:=FAn
 have FL:=FLn
 have FK:=FKn
 clear HKn FHn FPn FAn FLn FKn
 have HX:=Lib.hid hsl
 clear hb hb0 hsl
 go_wp2_with fail
 refine(eqI FK.out HX.out).mono ?_
 clear HX
 rintro e U21b⟨rfl,hb⟩
 have HKn:=Lib.hid (HK.out.later hb)
 have FHn:=Lib.hid (FH.out.later hb)
 have FPn:=Lib.hid (FP.out.later hb)
 have FAn:=Lib.hid (FA.out.later hb)
 have FLn:=Lib.hid (FL.out.later hb)
 have FKn:=Lib.hid (FK.out.later hb)
 clear HK FH FP FA FL FK
 have HK:=HKn
 have FH:=FHn
 have FP:=FPn
 have FA:=FAn
 have FL:=FLn
 have FK:=FKn
 clear HKn FHn FPn FAn FLn FKn
 clear hb
 have c0:=HK.out.b1.cell 0
 have c1:=HK.out.b1.cell 1
 have c2:=HK.out.b1.lt
 have d0:=HK.out.b2.cell 0
 have d1:=HK.out.b2.cell 1
 have d2:=HK.out.b2.lt
 go_wp2_with fail
 go_ret
 exact⟨rfl,HK.out.bel⟩
end Go.Proofs.YtifehdoghfnhoaaGreatDoor
