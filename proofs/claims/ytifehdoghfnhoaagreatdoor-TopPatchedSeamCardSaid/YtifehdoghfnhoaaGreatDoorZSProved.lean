/- steam's vat.proof, walked. -/
import Derived.Test.YtifehdoghfnhoaaGreatDoorZSMapG
import Derived.Test.YtifehdoghfnhoaaGreatDoorZSPick
import Derived.Deep.AppendLies
import Derived.Deep.RegionHeld3
import Derived.Deep.DeepCutAuto
namespace Go.Proofs.YtifehdoghfnhoaaGreatDoor
open Go.RowKit Go.Shelf Go.Maps
attribute [local go_sem] Oper.semAt_some
theorem info_chain:(Tryz.prog.info? 406).map (λi=>(i.zero,i.size,i.bytes))=some (some (.agg #[.slice none 0 0,.int .i64 0]),2,32):=by kernel_rfl
theorem und_chains:Tryz.prog.underlying 404=some (.slice 406):=by kernel_rfl
theorem make_chains(W:World):(Instr.makeSlice 404 (.int .i64 102) (.int .i64 102)).run Tryz.prog W=.ok (.slice (some ⟨W.heap.size,0,none⟩) 102 102) (W.alloc (.cells (uArr λ_=>⟨none,0,0,0⟩) 406)):=by
 obtain⟨i,hi,hz,hs,hb⟩:=info_parts info_chain
 have h:=run_makeSlice (P:=Tryz.prog) W 404 406 i _ und_chains hi hz .i64 .i64 102 102 (by omega) (by omega) (by rw[hs];decide) (by rw[hb];decide) (by omega)
 rw[hs]at h
 have e:madeCells (Value.agg #[.slice none 0 0,.int .i64 0]).cells ((102:Int).toNat*2)=uArr λ_=>⟨none,0,0,0⟩:=by
  apply Array.ext
  ·simp[madeCells,uArr]
  ·intro o h1 h2
   have ho:o<204:=by simpa[uArr]using h2
   simp only[madeCells,uArr,Array.getElem_map,Array.getElem_range,List.getElem_toArray,List.getElem_map,List.getElem_range,Value.cells]
   by_cases e:o % 2=0
   ·simp[e,Ch.sl]
   ·have:o % 2=1:=by omega
    simp[this]
 rw[e]at h
 exact h
theorem KeepD.kept{W0 W W':World}(h:KeepD W0 W)(hk:Kept W0.heap.size W W'):KeepD W0 W':=λk c hc=>(hk.low k (Array.getElem?_eq_some_iff.1 hc).1 (Array.getElem?_eq_some_iff.1 (h k c hc)).1).trans (h k c hc)
theorem run_app_rg{W:World}{base N:Nat}(ty:TypeId){A:Option Addr}{n c:Nat}{ws wx:List Rg}{r:Rg}(hwx:ws++[r]=wx)(hown:W.ownsRow base 34 2 (.slice A n c) ws.length (ws.flatMap encR))(hn:∀j u,(encR r)[j]? =some u->W.cell? ((⟨N,0,none⟩:Addr).add j)=some u) (h2:ws.length<=100):
 ∃v' W',(Builtin.append_ #[28,28] ty #[.slice A n n,.slice (some ⟨N,0,none⟩) 1 1]).run Tryz.prog W=.ok v' W'/\(W'.ownsRow W.heap.size 34 2 v' wx.length (wx.flatMap encR)/\W.grownBy W' none/\∃gg cap,v'=.slice (some ⟨gg,0,none⟩) wx.length cap):=by
 subst hwx
 obtain⟨i0,hi0,hz0,hz1,hz2⟩:=info_parts info_rg
 have hfin:∀{v':Value}{W':World},W'.ownsRow W.heap.size 34 2 v' (ws.length+1) (ws.flatMap encR++encR r)->W.grownBy W' none->(W'.ownsRow W.heap.size 34 2 v' (ws++[r]).length ((ws++[r]).flatMap encR)/\W.grownBy W' none/\∃gg cap,v'=.slice (some ⟨gg,0,none⟩) (ws++[r]).length cap):=λh3 h4=>by
  obtain⟨gg,cap,rfl⟩:=own_succ h3
  exact⟨by simpa[List.flatMap_append]using h3,h4,gg,cap,by simp⟩
 rcases hown.2 with⟨hv,h0⟩|⟨g,cap,cur,hv,_,hg,hc,_,hs,ht⟩
 ·simp only[Value.slice.injEq]at hv
  obtain⟨rfl,rfl,rfl⟩:=hv
  obtain rfl:ws=[]:=List.eq_nil_of_length_eq_zero h0
  obtain⟨v',W',h1',h2',h3',_⟩:=run_append_own (P:=Tryz.prog) W W.heap.size 28 ty 34 i0 (.agg #[.int .i64 0,.int .i64 0]) 2 16 und_rgs hi0 hz0 hz1 hz2 rfl (by decide) (.slice none 0 0) 0 [] (World.ownsRow_nil _ _ _ _) ⟨N,0,none⟩ 1 1 (encR r) rfl hn (by simp[encR,Value.oneCell']) (by simp only[maxLen];omega) (by omega) (Nat.le_refl _)
  exact⟨v',W',h1',hfin h2' h3'⟩
 ·simp only[Value.slice.injEq]at hv
  obtain⟨rfl,rfl,rfl⟩:=hv
  have holds:∀j u,(ws.flatMap encR)[j]? =some u->W.cell? ((⟨g,0,none⟩:Addr).add j)=some u:=λj u hu=>by
   have hadd:(⟨g,0,none⟩:Addr).add j=⟨g,j,none⟩:=by unfold Addr.add;split<;>simp_all
   rw[hadd]
   rw[<-ht]at hu
   have h5:=(List.getElem?_eq_some_iff.1 hu).1
   rw[List.getElem?_take_of_lt (by simp at h5;omega)]at hu
   simp only[World.cell?,hg]
   simpa using hu
  obtain⟨v',W',h1',h2',h3'⟩:=run_append_arg_grows (P:=Tryz.prog) W 28 ty 34 i0 (.agg #[.int .i64 0,.int .i64 0]) 2 16 und_rgs hi0 hz0 hz1 hz2 rfl (by decide) ⟨g,0,none⟩ ws.length ws.length (ws.flatMap encR) hown.1 holds ⟨N,0,none⟩ 1 1 (encR r) rfl hn (by omega) (by simp only[maxLen];omega) (by omega)
  exact⟨v',W',h1',hfin h2' h3'⟩
theorem run_app_ch{W:World}{base N:Nat}(ty:TypeId){v:Value}{ps:List Ch}{x:Ch}(hown:W.ownsRow base 406 2 v ps.length (ps.flatMap encCh))(hn:∀j u,(encCh x)[j]? =some u->W.cell? ((⟨N,0,none⟩:Addr).add j)=some u) (h2:ps.length<=1000) (hb:base<=W.heap.size):
 ∃v' W',(Builtin.append_ #[404,404] ty #[v,.slice (some ⟨N,0,none⟩) 1 1]).run Tryz.prog W=.ok v' W'/\(W'.ownsRow base 406 2 v' (ps++[x]).length ((ps++[x]).flatMap encCh)/\W.grownBy W' v.ownBlock/\∃gg cap,v'=.slice (some ⟨gg,0,none⟩) (ps.length+1) cap):=by
 obtain⟨i0,hi0,hz0,hz1,hz2⟩:=info_parts info_chain
 obtain⟨v',W',h1',h2',h3',_⟩:=run_append_own (P:=Tryz.prog) W base 404 ty 406 i0 (.agg #[.slice none 0 0,.int .i64 0]) 2 32 und_chains hi0 hz0 hz1 hz2 rfl (by decide) v ps.length _ hown ⟨N,0,none⟩ 1 1 (encCh x) rfl hn (by simp[encCh,Value.oneCell']) (by simp only[maxLen];omega) (by omega) hb
 obtain⟨gg,cap,rfl⟩:=own_succ h2'
 exact⟨_,W',h1',by simpa[List.flatMap_append]using h2',h3',gg,cap,rfl⟩
theorem step_of_run{ops:Array Oper}{o:Oper}{a:Act}{K:Act->World->Prop}{Q:Exit->Act->World->Prop}{E:Prop}{P:Program}{w:World}(hgd:o.guard=none)(s x:Operand)(t:TypeId)
 (ho:o.op=.call {callee:=.builtin .append,args:=#[s,x],argTypes:=#[t,t]})(v u:Value)(hs:a.eval s=v)(hx:a.eval x=u){R:Value->World->Prop}
 (hr:∃v' w',(Builtin.append_ #[t,t] o.type #[v,u]).run P w=.ok v' w'/\R v' w')(h:∀v' w',R v' w'->K (a.put o.dst v') w'):
 if Region.wanted o (yielded ops a.tmps)=true then Oper.wp P o a w K Q else E:=by
 have hw:Region.wanted o (yielded ops a.tmps)=true:=by simp[Region.wanted,hgd]
 rw[if_pos hw]
 obtain⟨v',w',h1,h2⟩:=hr
 unfold Oper.wp execOp
 simp only[ho,resolve,invoke,builtin,Sem.run_bind,Sem.run_pure,Result.andThen_ok,List.map_toArray,List.map_cons,List.map_nil,hs,hx,h1]
 exact h v' w' h2
structure UW(w W:World)(g:Nat)(L:Nat)(A:Option Addr)(c:Nat)(rs:List Rg)(U h:Nat)(F:Nat->Ch):Prop where
 fv:FV w W w.heap.size g (L:Int) A rs.length c
 b2:Blk W (w.heap.size+1+1) 400 #[.map (some (w.heap.size+1))]
 ub:Blk W U 406 (uArr F)
 uN:w.heap.size+1+1<U
 rows:∀j,j<=h->(F j).v=LA rs L j/\∃ws,ChainOk rs (L:Int) j ws (F j).v/\W.ownsRow w.heap.size 34 2 (F j).sl ws.length (ws.flatMap encR)
section
variable{w W W':World}{g:Nat}{L:Nat}{A:Option Addr}{c:Nat}{rs:List Rg}{U h:Nat}{F:Nat->Ch}
def NoRow(w W:World)(U:Nat)(row:Option Nat):Prop:=∀b,row=some b->w.heap.size+1+1<b/\b≠U/\∀cs t f,W.heap[b]? =some (.cells cs t f)->t=406
theorem own_noRow{v:Value}{n k:Nat}{xs:List Value}{base:Nat}{row:Option Nat}(ho:W.ownsRow base 34 k v n xs)(hg:W.grownBy W' row)(hrow:∀b,row=some b->∀cs t f,W.heap[b]? =some (.cells cs t f)->t=406):W'.ownsRow base 34 k v n xs:=
 own_grown ho hg λb hb e=>by
  rcases ho.2 with⟨rfl,_⟩|⟨g,cap,cur,rfl,_,hc,_⟩
  ·cases hb
  ·simp only[Value.ownBlock,Option.some.injEq]at hb
   subst hb
   have:=hrow _ e _ _ _ hc
   revert this;decide
theorem UW.grown(h0:UW w W g L A c rs U h F)(hgl:g<w.heap.size){row:Option Nat}(hg:W.grownBy W' row)(hrow:NoRow w W U row):UW w W' g L A c rs U h F:=by
 have hne:∀b,b<=w.heap.size+1+1->row≠some b:=λb hb e=>by have:=(hrow b e).1;omega
 refine⟨⟨h0.fv.bel.trans ⟨hg.os,hg.tape,hg.output,hg.size,λk hk=>hg.block k (by have:=h0.fv.b0.lt;omega) (λe=>hne k (by omega) e.symm)⟩,h0.fv.b0.grown hg (hne _ (by omega)),h0.fv.v0.grown hg (hne _ (by omega))⟩,h0.b2.grown hg (hne _ (by omega)),h0.ub.grown hg (λe=>(hrow _ e).2.1 rfl),h0.uN,λj hj=>?_⟩
 obtain⟨h1,ws,h2,h3⟩:=h0.rows j hj
 exact⟨h1,ws,h2,own_noRow h3 hg (λb e=>(hrow b e).2.2)⟩
theorem UW.later(h0:UW w W g L A c rs U h F)(hgl:g<w.heap.size)(hb:Below W.heap.size W W'):UW w W' g L A c rs U h F:=h0.grown hgl (grown_none hb) (λb e=>by cases e)
theorem UW.cells(h0:UW w W g L A c rs U h F):W.cell? ⟨w.heap.size,0,none⟩=some (.pointer (some ⟨g,0,none⟩))/\W.cell? ⟨w.heap.size+1+1,0,none⟩=some (.map (some (w.heap.size+1)))/\w.heap.size+1+1<W.heap.size/\w.heap.size<W.heap.size/\U<W.heap.size:=⟨h0.fv.b0.cell 0,h0.b2.cell 0,h0.b2.lt,h0.fv.b0.lt,h0.ub.lt⟩
theorem UW.start(hM:FV w W w.heap.size g (L:Int) A rs.length c)(hb2:Blk W (w.heap.size+1+1) 400 #[.map (some (w.heap.size+1))]):UW w (W.alloc (.cells (uArr λ_=>⟨none,0,0,0⟩) 406)) g L A c rs W.heap.size 0 (λ_=>⟨none,0,0,0⟩):=
 ⟨hM.later (balloc (brefl W) _),hb2.alloc _,Blk.new _ _ _,hb2.lt,λj hj=>by
   obtain rfl:j=0:=by omega
   exact⟨rfl,[],ChainOk.nil _ _ _,World.ownsRow_nil _ _ _ _⟩⟩
theorem UW.put(h0:UW w W g L A c rs U h F)(hgl:g<w.heap.size){x:Ch}(hx:x.v=LA rs L (h+1)){ws:List Rg}(hc:ChainOk rs (L:Int) (h+1) ws x.v)(ho:W.ownsRow w.heap.size 34 2 x.sl ws.length (ws.flatMap encR)):UW w ((W.setCell ⟨U,(h+1)*2,none⟩ x.sl).setCell ⟨U,(h+1)*2+1,none⟩ (.int .i64 x.v)) g L A c rs U (h+1) (updF F (h+1) x):=by
 have hUN:=h0.uN
 have hne:∀{v:Value}{n:Nat}{xs:List Value}(ho:W.ownsRow w.heap.size 34 2 v n xs),v.ownBlock≠some U:=λho=>h0.ub.notRow ho (by decide)
 refine⟨⟨(h0.fv.bel.setCell (by show w.heap.size<=U;omega) _).setCell (by show w.heap.size<=U;omega) _,(h0.fv.b0.other (by show U≠_;omega) _).other (by show U≠_;omega) _,(h0.fv.v0.other (by show U≠_;omega) _).other (by show U≠_;omega) _⟩,(h0.b2.other (by show U≠_;omega) _).other (by show U≠_;omega) _,?_,hUN,λj hj=>?_⟩
 ·have h1:=(h0.ub.set ((h+1)*2) x.sl).set ((h+1)*2+1) (.int .i64 x.v)
  rwa[uArr_set]at h1
 ·by_cases e:j=h+1
  ·subst e
   have hu:updF F (h+1) x (h+1)=x:=by simp[updF]
   rw[hu]
   exact⟨hx,ws,hc,own_other (own_other ho _ (hne ho) _) _ (hne ho) _⟩
  ·have hu:updF F (h+1) x j=F j:=by simp[updF,e]
   rw[hu]
   obtain⟨h1,ws',h2,h3⟩:=h0.rows j (by omega)
   exact⟨h1,ws',h2,own_other (own_other h3 _ (hne h3) _) _ (hne h3) _⟩
end
structure AL(w W:World)(rs:List Rg)(L:Nat)(B1 h:Nat)(av:Value)(ps:List Ch)(left:Rg->Bool):Prop where
 own:W.ownsRow B1 406 2 av ps.length (ps.flatMap encCh)
 cand:∀p∈ps,p.v<=LA rs L (h+1)/\∃ws,ChainOk rs (L:Int) (h+1) ws p.v/\W.ownsRow w.heap.size 34 2 p.sl ws.length (ws.flatMap encR)
 first:∃p∈ps,p.v=LA rs L h
 cov:∀r∈winsL rs,needP (L:Int) rs r≠0->r.hi=(h:Int)->left r=true\/∃p∈ps,p.v=LA rs L r.lo.toNat+needP (L:Int) rs r
section
variable{w W W':World}{rs:List Rg}{L:Nat}{B1 h:Nat}{av:Value}{ps:List Ch}{left left':Rg->Bool}
theorem AL.grown(h0:AL w W rs L B1 h av ps left){row:Option Nat}(hg:W.grownBy W' row)(hrow:∀b,row=some b->∀cs t f,W.heap[b]? ≠some (.cells cs t f)):AL w W' rs L B1 h av ps left:=by
 refine⟨own_grown h0.own hg λb hb e=>?_,λp hp=>?_,h0.first,h0.cov⟩
 ·rcases h0.own.2 with⟨rfl,_⟩|⟨g,cap,cur,rfl,_,hc,_⟩
  ·cases hb
  ·simp only[Value.ownBlock,Option.some.injEq]at hb
   subst hb
   exact hrow _ e _ _ _ hc
 ·obtain⟨h1,ws,h2,h3⟩:=h0.cand p hp
  exact⟨h1,ws,h2,own_noRow h3 hg (λb e cs t f hc=>absurd hc (hrow b e cs t f))⟩
theorem AL.later(h0:AL w W rs L B1 h av ps left)(hb:Below W.heap.size W W'):AL w W' rs L B1 h av ps left:=h0.grown (grown_none hb) (λb e=>by cases e)
theorem AL.left_(h0:AL w W rs L B1 h av ps left)(hl:∀r,left r=true->left' r=true\/r∉winsL rs\/r.hi≠(h:Int)):AL w W rs L B1 h av ps left':=
 ⟨h0.own,h0.cand,h0.first,λr hr hn hh=>by
   rcases h0.cov r hr hn hh with h1|h1
   ·rcases hl r h1 with h2|h2|h2
    ·exact .inl h2
    ·exact absurd hr h2
    ·exact absurd hh h2
   ·exact .inr h1⟩
theorem AL.noRow{U:Nat}(h0:AL w W rs L B1 h av ps left)(h1:w.heap.size+1+1<B1)(h2:U<B1):NoRow w W U av.ownBlock:=λb hb=>by
 have h3:=own_base h0.own b hb
 refine⟨by omega,by omega,λcs t f hc=>?_⟩
 rcases h0.own.2 with⟨rfl,_⟩|⟨g,cap,cur,rfl,_,hc2,_⟩
 ·cases hb
 ·simp only[Value.ownBlock,Option.some.injEq]at hb
  subst hb
  rw[hc2]at hc
  cases hc;rfl
theorem AL.push(h0:AL w W rs L B1 h av ps left){U:Nat}(hN:w.heap.size+1+1<B1)(hU:U<B1){av':Value}{x:Ch}(hg:W.grownBy W' av.ownBlock)(ho:W'.ownsRow B1 406 2 av' (ps++[x]).length ((ps++[x]).flatMap encCh)){r:Rg}(hx:x.v=LA rs L r.lo.toNat+needP (L:Int) rs r)(hle:x.v<=LA rs L (h+1)){ws:List Rg}(hc:ChainOk rs (L:Int) (h+1) ws x.v)(hox:W.ownsRow w.heap.size 34 2 x.sl ws.length (ws.flatMap encR))
 (hl:∀s,s∈winsL rs->left s=true->s≠r->left' s=true):AL w W' rs L B1 h av' (ps++[x]) left':=by
 have hrow:=h0.noRow (U:=U) hN hU
 refine⟨ho,λp hp=>?_,?_,λs hs hn hh=>?_⟩
 ·rcases List.mem_append.1 hp with h1|h1
  ·obtain⟨h2,ws',h3,h4⟩:=h0.cand p h1
   exact⟨h2,ws',h3,own_noRow h4 hg (λb e=>(hrow b e).2.2)⟩
  ·obtain rfl:=List.mem_singleton.1 h1
   exact⟨hle,ws,hc,own_noRow hox hg (λb e=>(hrow b e).2.2)⟩
 ·obtain⟨p,hp,hv⟩:=h0.first
  exact⟨p,by simp[hp],hv⟩
 ·by_cases e:s=r
  ·subst e;exact .inr ⟨x,by simp,hx⟩
  ·rcases h0.cov s hs hn hh with h1|⟨p,hp,hv⟩
   ·exact .inl (hl s hs h1 e)
   ·exact .inr ⟨p,by simp[hp],hv⟩
theorem AL.best(h0:AL w W rs L B1 h av ps λ_=>false)(hr:RsOk rs){x:Ch}(hx:x∈ps)(hm:∀y∈ps,y.v<=x.v):x.v=LA rs L (h+1):=by
 have h1:=(h0.cand x hx).1
 have h2:LA rs L (h+1)<=x.v:=by
  rcases la_or hr L h with e|⟨r,hw,hh,e⟩
  ·obtain⟨p,hp,hv⟩:=h0.first
   rw[e,<-hv];exact hm p hp
  ·by_cases hn:needP (L:Int) rs r=0
   ·obtain⟨p,hp,hv⟩:=h0.first
    obtain⟨a0,a1,a2⟩:=wins_small hr hw
    have h3:=la_mono rs L (show r.lo.toNat<=h by omega)
    have h4:=hm p hp
    omega
   ·rcases h0.cov r hw hn hh with h3|⟨p,hp,hv⟩
    ·cases h3
    ·rw[e,<-hv];exact hm p hp
 omega
end
set_option maxRecDepth 100000 in
set_option maxHeartbeats 8000000 in
theorem proof_any(g:Nat)(L:Nat)(A:Option Addr)(c:Nat)(rs:List Rg)(w:World)(hv:Blk w g 99 #[.int .i64 (L:Int),.slice A rs.length c])(hs:Sl 2 encR w w.heap.size A rs.length c rs)(hr:RsOk rs)(hL:1<=L/\L<=10):
 Calls Tryz.prog 258 #[.pointer (some ⟨g,0,none⟩)] w λe w'=>∃An cc ws,e=.returned (.slice An ws.length cc)/\Below w.heap.size w w'/\w'.ownsRow w.heap.size 34 2 (.slice An ws.length cc) ws.length (ws.flatMap encR)/\ChainOk rs (L:Int) 101 ws (LA rs L 101):=by
 have hgl:=hv.lt
 have hLI:1<=(L:Int)/\(L:Int)<=10:=by omega
 have Hr:=Lib.hid hr
 have Hs:=Lib.hid hs
 have Hnd:=Lib.hid (need_le hLI hr)
 have Hv:=Lib.hid hv
 have Hlh:=Lib.hid (show∀x∈rs,x.lo<=x.hi fromλx hx=>(hr.2 x hx).2.1)
 have hn10:=hr.1
 clear hv hs hr
 refine calls_of_marks Tryz.func258 rfl ?_
 simp only[Tryz.ntmps258,List.size_toArray,List.length_cons,List.length_nil,Nat.reduceAdd,Nat.reduceSub,Array.replicate_succ,Array.replicate_zero,List.push_toArray,List.append_toArray,List.nil_append,List.cons_append]
 have hmm:=@run_makeMap Tryz.prog
 have hTs:g<w.heap.size+1:=by omega
 have hTs2:g<w.heap.size+1+1:=by omega
 have hTs3:g<w.heap.size+1+1+1:=by omega
 go_wp2_with fail
 have hM0:PM w (((w.alloc (.cells #[.pointer (some ⟨g,0,none⟩)] 72)).alloc (.map #[] 0)).alloc (.cells #[.map (some (w.heap.size+1))] 400)) g (L:Int) A c rs 0 (λ_=>False):=by
  refine⟨⟨balloc (balloc (balloc (brefl w) _) _) _,((Blk.new w _ _).alloc _).alloc _,((Hv.out.alloc _).alloc _).alloc _⟩,?_,.map [],?_,MapIs.empty _⟩
  ·have h5:=Blk.new ((w.alloc (.cells #[.pointer (some ⟨g,0,none⟩)] 72)).alloc (.map #[] 0)) 400 #[.map (some (w.heap.size+1))]
   rw[World.size_alloc,World.size_alloc]at h5
   exact h5
  ·have h5:=(World.ownsMap_made (H:=Unit) (w.alloc (.cells #[.pointer (some ⟨g,0,none⟩)] 72)) Tryz.prog 34 (plainElem Tryz.prog 2)).alloc (.cells #[.map (some (w.heap.size+1))] 400)
   rw[World.size_alloc]at h5
   exact h5
 have HM0:=Lib.hid hM0
 clear hM0
 generalize ((w.alloc (.cells #[.pointer (some ⟨g,0,none⟩)] 72)).alloc (.map #[] 0)).alloc (.cells #[.map (some (w.heap.size+1))] 400)=W0 at*
 obtain⟨m0,m2,ml,mn⟩:=HM0.out.cells
 have HW0:=Lib.hid (show w.heap.size+1+1<W0.heap.size/\g<W0.heap.size from⟨ml,HM0.out.fv.v0.lt⟩)
 refine(windows_any g _).mono ?_
 rintro e w3⟨rfl,hw3⟩
 have hb3:Below W0.heap.size W0 w3:=by rw[<-hw3];exact balloc (brefl _) _
 have HIR:=Lib.hid (show IR w3 W0.heap.size g (L:Int) A c rs from⟨by rw[<-hw3];exact Blk.new _ _ _,(HM0.out.later hb3).fv.v0,(Hs.out.later (HM0.out.fv.bel.trans ⟨hb3.os,hb3.tape,hb3.output,hb3.size,λk hk=>hb3.block k (by omega)⟩)).wider (by have:=HM0.out.fv.bel.size;have:=hb3.size;omega)⟩)
 have HM3:=Lib.hid (HM0.out.later hb3)
 have HW3:=Lib.hid (show w.heap.size+1+1<w3.heap.size by have:=hb3.size;omega)
 clear hw3 hb3 m0 m2 ml mn HM0 hmm hTs hTs2 hTs3
 go_wp2_with fail
 refine range_wins (B1:=W0.heap.size) (gv:=g) (L:=(L:Int)) (A:=A) (c:=c) (rs:=rs) (d:=4) (w:=w3) rfl Hr.out HIR.out
  (λ(pre:List (Wi rs))W=>∃n:Nat,n<=pre.length/\PM w W g (L:Int) A c rs n (λr=>∃y∈pre,y.1=r)/\KeepD w3 W)
  (λc(pre:List (Wi rs))W=>False)
  ?hI ?hIx
  ⟨0,by simp,HM3.out.congr (λr=>by simp),KeepD.refl _⟩ ?assign ?body ?done ?stop
 case hI=>
  intro pre W W' hK h
  obtain⟨n,h1,h2,h3⟩:=h
  exact⟨n,h1,h2.kept hK (Nat.le_of_lt HW3.out),h3.kept hK⟩
 case hIx=>exactλc pre W W' hK h=>h
 case assign=>
  intro l x W K hK
  gi_wp2
  exact hK
 case body=>
  intro l pre x Bx W hWs hBx hbx hI hpl
  obtain⟨n,hn,hM,hKD⟩:=hI
  have hsx:=wins_key Hr.out x.2
  have hnx:=Hnd.out x.1
  obtain⟨m0,m2,ml,mn⟩:=hM.cells
  have b0:=hbx.cell 0
  have b1:=hbx.cell 1
  have bz:=hbx.lt
  have Hneed:=Lib.hid (λW'(hb:Below W.heap.size W W')=>need_any g (L:Int) A rs.length c rs x.1 W' (hM.fv.v0.later hb) (Hs.out.later ((hM.fv.bel).trans ⟨hb.os,hb.tape,hb.output,hb.size,λk hk=>hb.block k (by omega)⟩)) (by omega) hLI Hlh.out)
  have HM:=Lib.hid hM
  have HKD:=Lib.hid hKD
  have HWs:=Lib.hid hWs
  have Hx:=Lib.hid hsx
  have Hn2:=Lib.hid hnx
  clear hM hKD hWs hbx hsx hnx
  unfold boxedAct
  gi_wp2_with fail
  refine dagIn 5 (lets_round l 7 _) (by kernel_rfl) (by kernel_rfl) (.is ?_::.is ?_::.is ?_::.is ?_::.is ?_::[]) rfl ?st2 ?ob2
  case st2=>simp[Spec.ok]
  case ob2=>
   intro env W' hG
   obtain⟨hc,hf⟩:=bcell hG
   iterate 4 (refine obI ?_ ?_;unfold dsA;go_simp;(try go_bits);(first|(refine⟨brefl _,?_⟩;rfl)|rfl);intro K hK;go_simp;refine hK _ ?_;clear hK K)
   refine obI ?_ ?_
   ·unfold dsA
    go_simp
    refine(Hneed.out W' hG).mono ?_
    rintro e w1⟨rfl,hb1⟩
    refine⟨?_,hb1⟩
    rfl
   intro K hK
   go_simp
   refine hK _ ?_
   clear hK K
   refine obls_last (λ_=>?_)
   have hM':=HM.out.later hG
   obtain⟨D0,hown0,_⟩:=hM'.own
   obtain⟨w',hrun,hM2,hgr⟩:=hM'.put hgl (by omega) x.1 Hx.out ⟨Hn2.out.1,by have:=Hn2.out.2;omega⟩
   have HG:=Lib.hid hG
   have HM2:=Lib.hid hM2
   have Hgr:=Lib.hid hgr
   have Hown0:=Lib.hid hown0
   clear hc hf hG hM' hM2 hgr hown0
   unfold dsA
   go_simp
   have hGs:=HG.out.size
   have hW3:=HW3.out
   refine⟨(KeepsFrom.later HG.out).trans (KeepsFrom.of_grownBy Hgr.out (λj hj=>by cases hj;omega)),(KpC.of_below HG.out).trans (KpC.grown Hgr.out (λr hr=>by
    cases hr
    obtain⟨es,clock,hb,_⟩:=Hown0.out
    exact⟨_,hb,rfl⟩)),n+1,by simpa using hn,HM2.out.congr (λs=>?_),(HKD.out.later HG.out).map Hown0.out Hgr.out⟩
   simp only[List.mem_append,List.mem_singleton]
   constructor
   ·rintro(⟨y,hy,e⟩|rfl)
    ·exact⟨y,.inl hy,e⟩
    ·exact⟨x,.inr rfl,rfl⟩
   ·rintro⟨y,hy|rfl,e⟩
    ·exact .inl ⟨y,hy,e⟩
    ·exact .inr e.symm
 case done=>
  intro D' W5 ys hD' hcov hI5 hd
  obtain⟨n5,hn5,hM5,hKD5⟩:=hI5
  obtain⟨hcov,hyl⟩:=hcov
  have hn100:n5<=100:=Nat.le_trans hn5 hyl
  have hM6:PM w W5 g (L:Int) A c rs n5 (λr=>r∈winsL rs):=hM5.congr (λr=>⟨λ⟨y,_,e⟩=>e▸y.2,λh=>hcov r h⟩)
  have hmk:Marks (w.heap.size+1+1) W5 (mark D'::[]):=(Marks.nil _ w3).cons hD' (Nat.le_of_lt HW3.out) hd (λk c _ hk=>hKD5 k c hk)
  have HM6:=Lib.hid hM6
  have Hmk:=Lib.hid hmk
  clear hM5 hKD5 hd hmk hM6 hcov hD' hn5 hyl HM3 HIR HW0
  obtain⟨m0,m2,ml,mn⟩:=HM6.out.cells
  obtain⟨D0,hown0,hD0⟩:=HM6.out.own
  have Hown0:=Lib.hid hown0
  have HD0:=Lib.hid hD0
  have hNr:w.heap.size+1+1<W5.heap.size:=ml
  clear hown0 hD0
  go_wp2_with (at_range;refine wpList_range_own _ rfl _ 400 rfl 34 2 keyed_rg und_mrg _ (w.heap.size+1) n5 D0 rfl Hown0.out ?_;intro w0 hrg0 hg0 hs0)
  go_frame
  have hR0:PR w w0 g (L:Int) A c rs W5.heap.size D0 (Maps.has D0):=
   ⟨HM6.out.fv.later ⟨hg0.os,hg0.tape,hg0.output,hg0.size,λk hk=>hg0.block k hk (λe=>by cases e)⟩,HM6.out.b2.grown hg0 (λe=>by cases e),HD0.out.congr (λr=>⟨λh=>⟨h,.inl (HD0.out.yes r h).1⟩,λh=>h.1⟩),λz h=>h,hNr⟩
  have hm0:Marks (w.heap.size+1+1) w0 (mark D'::[]):=Hmk.out.kept (λk c h=>(hg0.block k (Array.getElem?_eq_some_iff.1 h).1 (λe=>by cases e)).trans h)
  have HR0:=Lib.hid hR0
  have Hrg0:=Lib.hid hrg0
  have Hm0:=Lib.hid hm0
  generalize W5.heap.size=r at*
  clear hrg0 hg0 hs0 hR0 hm0 HM6 Hmk Hown0 HD0 m0 m2 ml mn hNr HW3
  obtain⟨ds,hds0⟩:∃ds,([mark D']:List Deferred)=ds:=⟨_,rfl⟩
  have hmd:({target:=.collected D',args:=#[]}:Deferred)=mark D':=rfl
  rw[hds0]at Hm0
  refine lpn (λm a W=>a.defers=ds/\∃(D:DM)(left:Lit->Bool)(cnt:Nat),cnt<=m/\PR w W g (L:Int) A c rs r D left/\RangesM W (w.heap.size+1) r n5 D left cnt/\Marks (w.heap.size+1+1) W ds/\Fits (none::some (.pointer (some ⟨w.heap.size,0,none⟩))::none::some (.pointer (some ⟨w.heap.size+1+1,0,none⟩))::none::none::none::none::none::none::none::none::none::none::none::none::none::none::none::none::none::none::none::some (.pointer (some ⟨r,0,none⟩))::none::none::none::none::none::none::none::none::none::none::none::none::none::none::none::none::none::none::none::none::none::none::none::none::none::none::none::none::none::none::none::none::none::none::none::none::none::none::none::none::none::none::none::none::none::none::none::none::none::none::none::none::none::none::none::none::none::none::none::none::none::none::none::none::none::none::none::none::none::none::none::[]) a.tmps.toList) (Maps.size D0) ?_ ?_
  ·refine⟨hds0,D0,_,_,Nat.le_refl _,HR0.out,Hrg0.out,Hm0.out,?_⟩
   repeat (first|exact ftL|refine ftN ?_|refine ftS ?_)
  clear HR0 Hrg0 Hm0 hmd hds0
  clear w0
  intro m a W hI K hK
  obtain⟨hds,D,left,cnt,hcm,hR,hrg,hm,hfit⟩:=hI
  obtain⟨f,hf⟩:=ftA hfit
  rw[hds]at hf
  subst hf
  clear hfit hds
  simp only[fillP,Nat.reduceAdd]
  have HR:=Lib.hid hR
  have Hrg:=Lib.hid hrg
  have Hm:=Lib.hid hm
  clear hR hrg hm
  rcases Hrg.out.next keyed_rg 0 with⟨hc0,hl0,hrun⟩|⟨x,c0,kl,y,w1,cnt1,hkey,hlk,hv,hat,hrun,hrg1,hlt1,hgr,hsz,hen⟩
  ·have hown:=Hrg.out.owns
   have hD:MapIs D (λs=>s∈winsL rs/\needP (L:Int) rs s≠0) (needP (L:Int) rs):=HR.out.is.congr (λs=>by
    rw[hl0]
    simp only[Bool.false_eq_true,false_or])
   obtain⟨m0,m2,ml,mn⟩:=HR.out.cells
   have Hown:=Lib.hid hown
   have HD:=Lib.hid hD
   clear hc0 hl0 hown hD hK
   have hmk:=make_chains W
   have HU0:=Lib.hid (UW.start (L:=L) (rs:=rs) HR.out.fv HR.out.b2)
   have Hown1:=Lib.hid (Hown.out.alloc (.cells (uArr λ_=>⟨none,0,0,0⟩) 406))
   have Hm1:=Lib.hid (Hm.out.later (balloc (brefl W) (.cells (uArr λ_=>⟨none,0,0,0⟩) 406)))
   go_wp2_with fail
   generalize W.alloc (.cells (uArr λ_=>⟨none,0,0,0⟩) 406)=W1 at*
   obtain⟨U,hU⟩:∃U,W.heap.size=U:=⟨_,rfl⟩
   rw[hU]at HU0 ⊢
   clear hU hmk m0 m2 ml mn HR Hrg Hm Hown
   clear hcm
   refine lpn (λm a W=>a.defers=ds/\∃(h:Nat)(F:Nat->Ch),h+m=101/\UW w W g L A c rs U h F/\OwnsM W (w.heap.size+1) n5 D/\Marks (w.heap.size+1+1) W ds/\Fits (none::some (.pointer (some ⟨w.heap.size,0,none⟩))::none::some (.pointer (some ⟨w.heap.size+1+1,0,none⟩))::none::none::none::some (.slice (some ⟨U,0,none⟩) 102 102)::none::none::none::none::none::none::none::none::none::none::none::none::none::none::none::none::none::none::none::none::none::none::none::none::none::none::none::none::some (.int .i64 101)::some (.int .i64 (h:Nat))::none::none::none::none::none::none::none::none::none::none::none::none::none::none::none::none::none::none::none::none::none::none::none::none::none::none::none::none::none::none::none::none::none::none::none::none::none::none::none::none::none::none::none::none::none::none::none::none::none::none::none::none::none::none::none::none::none::[]) a.tmps.toList) 101 ?_ ?_
   ·refine⟨rfl,0,_,by omega,HU0.out,Hown1.out,Hm1.out,?_⟩
    repeat (first|exact ftL|refine ftN ?_|refine ftS ?_)
   clear HU0 Hown1 Hm1
   clear W1
   intro m2 a W hI K hK
   obtain⟨hds,h,F,hhm,hU,hown,hm,hfit⟩:=hI
   obtain⟨f2,hf⟩:=ftA hfit
   rw[hds]at hf
   subst hf
   clear hfit hds
   simp only[fillP,Nat.reduceAdd]
   obtain⟨m0,m2',ml,mn,mu⟩:=hU.cells
   by_cases hlt:h<101
   ·have i1:(h:Int)<101:=by omega
    have i2:(0:Int)<=(h:Int):=by omega
    have i3:IntKind.i64.wrap ((h:Int)+1)=(h:Int)+1:=by rw[IntKind.wrap_i64];omega
    have i4:(h:Int)<102:=by omega
    have u0:=(hU.ub.cell (h*2)).trans (uArr_sl F (by omega))
    have u1:=(hU.ub.cell (h*2+1)).trans (uArr_v F (by omega))
    unfold Ch.sl at u0
    have hal:=balloc (brefl W) (.cells #[.slice (F h).A (F h).n (F h).c,.int .i64 (F h).v] 406)
    have hB9:Blk (W.alloc (.cells #[.slice (F h).A (F h).n (F h).c,.int .i64 (F h).v] 406)) W.heap.size 406 #[.slice (F h).A (F h).n (F h).c,.int .i64 (F h).v]:=Blk.new _ _ _
    obtain⟨hv0,ws0,hc0',ho0⟩:=hU.rows h (Nat.le_refl _)
    have hAL:AL w (W.alloc (.cells #[.slice (F h).A (F h).n (F h).c,.int .i64 (F h).v] 406)) rs L W.heap.size h (.slice (some ⟨W.heap.size,0,none⟩) 1 1) [F h] (λr=>has D (keyR r)):=by
     refine⟨⟨rfl,.inr ⟨W.heap.size,1,_,rfl,Nat.le_refl _,hB9,Nat.le_refl _,by simp[maxLen],rfl,rfl⟩⟩,λp hp=>?_,⟨F h,by simp,hv0⟩,λr hr hn _=>.inl (HD.out.yes r ⟨hr,hn⟩).1⟩
     obtain rfl:=List.mem_singleton.1 hp
     exact⟨by rw[hv0];exact la_mono1 rs L h,ws0,hc0'.up (by omega),owL ho0 hal⟩
    have HAL:=Lib.hid hAL
    have HU1:=Lib.hid (hU.later hgl hal)
    have Hown1:=Lib.hid (hown.alloc (.cells #[.slice (F h).A (F h).n (F h).c,.int .i64 (F h).v] 406))
    have Hm1:=Lib.hid (hm.later hal)
    have w0':=(HU1.out.cells).2.1
    have w1':=(HU1.out.cells).2.2.1
    clear hAL hU hown hm hal hB9 hv0 hc0' ho0
    clear ws0
    go_wp2_with (at_range;refine wpList_range_own _ rfl _ 400 rfl 34 2 keyed_rg und_mrg _ (w.heap.size+1) n5 D rfl Hown1.out ?_;intro w0 hrg0 hg0 hs0)
    obtain⟨B1,hB1⟩:∃B1,W.heap.size=B1:=⟨_,rfl⟩
    have hrr:(W.alloc (.cells #[.slice (F h).A (F h).n (F h).c,.int .i64 (F h).v] 406)).heap.size=B1+1:=by rw[World.size_alloc,hB1]
    rw[hrr]at hrg0 ⊢
    rw[hB1]at HAL ⊢
    have hszD:=Hown1.out.size_le
    have hU1:U<B1:=by rw[<-hB1];exact mu
    have hB1N:w.heap.size+1+1<B1:=by rw[<-hB1];exact ml
    have HU2:=Lib.hid (HU1.out.grown hgl hg0 (λb e=>by cases e))
    have HAL2:=Lib.hid (HAL.out.grown hg0 (λb e=>by cases e))
    have Hm2:=Lib.hid (Hm1.out.kept (W':=w0) (λk c h=>(hg0.block k (Array.getElem?_eq_some_iff.1 h).1 (λe=>by cases e)).trans h))
    have Hrg0:=Lib.hid hrg0
    have HbB:=Lib.hid (show B1+1<=w0.heap.size by have:=hg0.size;omega)
    clear hrg0 hg0 hs0 hrr HU1 HAL Hown1 Hm1 m0 m2' ml mn mu u0 u1 w0' w1' hB1
    refine lpn (λm a W=>a.defers=ds/\∃(left:Lit->Bool)(cnt:Nat)(av:Value)(ps:List Ch),cnt<=m/\ps.length+m<=102/\(∀z,left z=true->Maps.has D z=true)/\UW w W g L A c rs U h F/\RangesM W (w.heap.size+1) (B1+1) n5 D left cnt/\AL w W rs L B1 h av ps (λr=>left (keyR r))/\Marks (w.heap.size+1+1) W ds/\B1+1<=W.heap.size/\Fits (none::some (.pointer (some ⟨w.heap.size,0,none⟩))::none::some (.pointer (some ⟨w.heap.size+1+1,0,none⟩))::none::none::none::some (.slice (some ⟨U,0,none⟩) 102 102)::some (.int .i64 (h:Nat))::some (av)::none::none::none::none::none::none::none::none::none::none::none::none::none::none::none::none::none::none::none::none::none::none::none::none::none::none::some (.int .i64 101)::some (.int .i64 (h:Nat))::none::none::none::none::none::none::none::none::some (.pointer (some ⟨B1+1,0,none⟩))::none::none::none::none::none::none::none::none::none::none::none::none::none::none::none::none::none::none::none::none::none::none::none::none::none::none::none::none::none::none::none::none::none::none::none::none::none::none::none::none::none::none::none::none::none::none::none::none::[]) a.tmps.toList) (Maps.size D) ?_ ?_
    ·refine⟨rfl,_,_,_,[F h],Nat.le_refl _,by simp;omega,λz h=>h,HU2.out,Hrg0.out,HAL2.out,Hm2.out,HbB.out,?_⟩
     repeat (first|exact ftL|refine ftN ?_|refine ftS ?_)
    clear HU2 HAL2 Hm2 Hrg0 HbB
    clear w0 W
    intro m a W hI K2 hK2
    obtain⟨hds,left,cnt,av,ps,hcm,hpl,hhas,hU,hrg,hAL,hm,hBW,hfit⟩:=hI
    obtain⟨f3,hf⟩:=ftA hfit
    rw[hds]at hf
    subst hf
    clear hfit hds
    simp only[fillP,Nat.reduceAdd]
    have HU:=Lib.hid hU
    have Hrg:=Lib.hid hrg
    have HAL:=Lib.hid hAL
    have Hm:=Lib.hid hm
    have Hhas:=Lib.hid hhas
    clear hU hrg hAL hm hhas
    rcases Hrg.out.next keyed_rg 0 with⟨hc0,hl0,hrun⟩|⟨x,c0,kl,y,w1,cnt1,hkey,hlk,hv,hat,hrun,hrg1,hlt1,hgr,hsz,hen⟩
    ·have HO:=Lib.hid Hrg.out.owns
     have hAL0:AL w W rs L B1 h av ps (λ_=>false):=HAL.out.left_ (λr hr=>by rw[hl0]at hr;cases hr)
     obtain⟨Aa,ca,rfl,hsl⟩:=own_slG (k:=2) (enc:=encCh) (λ_=>rfl) HAL.out.own rfl
     have hp0:0<ps.length:=by
      obtain⟨p,hp,_⟩:=HAL.out.first
      exact List.length_pos_of_mem hp
     have HAL0:=Lib.hid hAL0
     have Hsl:=Lib.hid hsl
     obtain⟨m0,m2',ml,mn,mu⟩:=HU.out.cells
     clear hc0 hl0 hAL0 hsl Hrg HAL Hhas hK2
     go_wp2_with fail
     refine(bestCh_any Aa ps.length ca ps _ Hsl.out hp0).mono ?_
     rintro e w2⟨⟨x,hx,rfl,hmax⟩,hb2⟩
     have hxv:=HAL0.out.best Hr.out hx hmax
     obtain⟨_,ws,hcw,how⟩:=(HAL0.out.later hb2).cand x hx
     have hU2:=HU.out.later hgl hb2
     have HU3:=Lib.hid (hU2.put hgl hxv hcw how)
     have Hm2:=Lib.hid ((Hm.out.later hb2).setCell ⟨U,(h+1)*2,none⟩ x.sl |>.setCell ⟨U,(h+1)*2+1,none⟩ (.int .i64 x.v))
     have HO2:=Lib.hid (show OwnsM ((w2.setCell ⟨U,(h+1)*2,none⟩ x.sl).setCell ⟨U,(h+1)*2+1,none⟩ (.int .i64 x.v)) (w.heap.size+1) n5 D from by
      obtain⟨es,clock,hb,FF,hs,hD⟩:=HO.out.kept (grown_none hb2) (by simp)
      have hUN:=hU2.uN
      exact⟨es,clock,by rw[Below.heap_setCell _ _ _ _ (by show w.heap.size+1≠U;omega),Below.heap_setCell _ _ _ _ (by show w.heap.size+1≠U;omega)];exact hb,FF,hs,hD⟩)
     have e0:=hU2.ub.lt
     have e1:=hU2.ub.frozen ((h+1)*2)
     have e2:=hU2.ub.frozen ((h+1)*2+1)
     have e3:=(hU2.ub.cell ((h+1)*2)).trans (uArr_sl F (by omega))
     have e4:=(hU2.ub.cell ((h+1)*2+1)).trans (uArr_v F (by omega))
     have j1:(h:Int)+1<102:=by omega
     have j2:(0:Int)<=(h:Int)+1:=by omega
     have j3:((h:Int)+1).toNat=h+1:=by omega
     clear hxv hcw how hU2 hmax hx hb2 HAL0 Hsl HU m0 m2' ml mn mu Hm HO
     unfold Ch.sl at e3 HU3 Hm2 HO2
     go_wp2_with fail
     refine hK _ _ (m2-1) (by omega) ⟨rfl,h+1,_,by omega,HU3.out,HO2.out,Hm2.out,?_⟩
     repeat (first|exact ftL|refine ftN ?_|refine ftS ?_)
    ·have hDk:=Hhas.out kl hlk
     obtain⟨s,rfl,hS⟩:=HD.out.only kl hDk
     have hsm:=HD.out.small s hS
     obtain rfl:x=.agg #[.int .i64 s.lo,.int .i64 s.hi]:=keyed_rg.inj hkey (keyR_of s hsm)
     obtain⟨cv,rfl,hy,hwf⟩:=plainElem_int_inv und_i64 hv
     obtain rfl:cv=needP (L:Int) rs s:=by
      have h1:=(HD.out.yes s hS).2 (.lit (.int .i64 0))
      rw[hat,hy]at h1
      simpa using h1
     obtain⟨hsw,hsn⟩:=hS
     obtain⟨a0,a1,a2⟩:=wins_small Hr.out hsw
     have hnc:∀b,some (B1+1)=some b->∀cs t f,W.heap[b]? ≠some (.cells cs t f):=λb e cs t f h=>by
      simp at e
      subst e
      obtain⟨_,_,_,_,_,_,_,_,_,hr,_⟩:=Hrg.out
      rw[hr]at h;cases h
     have hU1:=HU.out.grown hgl hgr (λb e=>by
      have:=hnc b e
      simp at e
      exact⟨by omega,by omega,λcs t f h=>absurd h (this cs t f)⟩)
     have hAL1:=HAL.out.grown hgr hnc
     have hm1:=Hm.out.kept (W':=w1) (λk c h=>(hgr.block k (Array.getElem?_eq_some_iff.1 h).1 (λe=>by
      simp at e
      subst e
      obtain⟨_,_,_,_,_,_,_,_,_,hr,_⟩:=Hrg.out
      rw[hr]at h;cases h)).trans h)
     have Hav0:=Lib.hid (own_lt hAL1.own)
     have HavR:=Lib.hid (show av.ownBlock≠some (B1+1)fromλe=>by
      rcases HAL.out.own.2 with⟨rfl,_⟩|⟨g',cap',cur',rfl,_,hc',_⟩
      ·cases e
      ·simp only[Value.ownBlock,Option.some.injEq]at e
       subst e
       exact hnc _ rfl _ _ _ hc')
     have hBW1:B1+1<=w1.heap.size:=by have:=hgr.size;omega
     have hGs:=balloc (brefl w1) (.cells #[.int .i64 s.lo,.int .i64 s.hi] 34)
     have HU3:=Lib.hid (hU1.later hgl hGs)
     have HAL3:=Lib.hid (hAL1.later hGs)
     have Hm3:=Lib.hid (hm1.later hGs)
     have Hrg3:=Lib.hid (show RangesM (w1.alloc (.cells #[.int .i64 s.lo,.int .i64 s.hi] 34)) (w.heap.size+1) (B1+1) n5 D (λz=>left z&&!z.sameKey (keyR s)) cnt1 from hrg1.kept (grown_none hGs) (by simp) (by simp))
     have Hhas3:=Lib.hid (show∀z,(left z&&!z.sameKey (keyR s))=true->Maps.has D z=true fromλz hz=>Hhas.out z (by simp at hz;exact hz.1))
     have Hsm:=Lib.hid hsm
     have Hsw:=Lib.hid hsw
     have Hsn:=Lib.hid hsn
     have hleft:∀r:Rg,r∈winsL rs->left (keyR r)=true->r≠s->(left (keyR r)&&!(keyR r).sameKey (keyR s))=true:=λr hr h1 h2=>by
      have hne:keyR r≠keyR s:=λe'=>h2 (keyR_inj (wins_key Hr.out hr) hsm e')
      simp[h1,sameKey_ne hne]
     have Hleft:=Lib.hid hleft
     obtain⟨m0,m2',ml,mn,mu⟩:=hU1.cells
     obtain⟨slo,shi⟩:=s
     simp only at a0 a1 a2
     obtain⟨lo,rfl⟩:∃lo:Nat,slo=lo:=⟨slo.toNat,by omega⟩
     obtain⟨hi,rfl⟩:∃hi:Nat,shi=hi:=⟨shi.toNat,by omega⟩
     simp only at hGs HU3 HAL3 Hrg3 hen
     have hBs:Blk (w1.alloc (.cells #[.int .i64 lo,.int .i64 hi] 34)) w1.heap.size 34 #[.int .i64 lo,.int .i64 hi]:=Blk.new _ _ _
     have s0:=hBs.cell 0
     have s1:=hBs.cell 1
     have sl:=hBs.lt
     have HBs:=Lib.hid hBs
     have j1:(lo:Int)<102:=by omega
     have j2:(0:Int)<=(lo:Int):=by omega
     clear hkey hlk hv hat hgr hsz hy hwf hU1 hAL1 hm1 hrg1 hGs hBs hsm hsw hsn hleft hDk hnc
     clear HU Hrg HAL Hm Hhas
     obtain⟨q,hq⟩:∃q,needP (L:Int) rs ⟨lo,hi⟩=q:=⟨_,rfl⟩
     have Hq:=Lib.hid hq
     rw[hq]at hen
     clear hq
     by_cases he:hi=h
     ·subst he
      have hz1:((hi:Int)==(hi:Int))=true:=by simp
      have hU4:=HU3.out
      obtain⟨hv0,ws,hcw,how⟩:=hU4.rows lo (by omega)
      have u0:=(hU4.ub.cell (lo*2)).trans (uArr_sl F (by omega))
      have u1:=(hU4.ub.cell (lo*2+1)).trans (uArr_v F (by omega))
      have ul:=hU4.ub.lt
      obtain⟨y,hy⟩:∃y,F lo=y:=⟨_,rfl⟩
      rw[hy]at hv0 hcw how u0 u1
      obtain⟨yA,yn,yc,yv⟩:=y
      simp only at hv0 hcw u0 u1
      have Hv0:=Lib.hid hv0
      have Hcw:=Lib.hid hcw
      unfold Ch.sl at u0 how
      have hal:=balloc (brefl (w1.alloc (.cells #[.int .i64 lo,.int .i64 hi] 34))) (.cells #[.slice yA yn yc,.int .i64 yv] 406)
      have hBc:Blk ((w1.alloc (.cells #[.int .i64 lo,.int .i64 hi] 34)).alloc (.cells #[.slice yA yn yc,.int .i64 yv] 406)) (w1.heap.size+1) 406 #[.slice yA yn yc,.int .i64 yv]:=by
       have h5:=Blk.new (w1.alloc (.cells #[.int .i64 lo,.int .i64 hi] 34)) 406 #[.slice yA yn yc,.int .i64 yv]
       rw[World.size_alloc]at h5
       exact h5
      have HBc:=Lib.hid hBc
      have HBr:=Lib.hid (HBs.out.later hal)
      have HU5:=Lib.hid (hU4.later hgl hal)
      have HAL5:=Lib.hid (HAL3.out.later hal)
      have Hm5:=Lib.hid (Hm3.out.later hal)
      have Hrg5:=Lib.hid (Hrg3.out.kept (grown_none hal) (by simp) (by simp))
      have Hhow:=Lib.hid (owL how hal)
      have hBW5:B1+1<=((w1.alloc (.cells #[.int .i64 lo,.int .i64 hi] 34)).alloc (.cells #[.slice yA yn yc,.int .i64 yv] 406)).heap.size:=by simp;omega
      have hwl:ws.length<=100:=by
       have h1:=chain_len hLI.1 Hlh.out ws (λr hr=>(hcw.win r hr).2) hcw.pw
       have h2:=List.countP_le_length (p:=λx=>ws.any λr=>inWd r x) (l:=rs)
       omega
      have Hav:=Lib.hid (show∀b,av.ownBlock=some b->b<w1.heap.size from Hav0.out)
      clear hU4 hv0 hcw how hy hBc hal HU3 HAL3 Hm3 Hrg3 HBs
      go_wp2_with fail
      generalize (w1.alloc (.cells #[.int .i64 lo,.int .i64 hi] 34)).alloc (.cells #[.slice yA yn yc,.int .i64 yv] 406)=W2 at*
      have Hav12:=Lib.hid (show av.ownBlock≠some (w1.heap.size+1)fromλe=>by have:=Hav.out _ e;omega)
      have Hav10:=Lib.hid (show av.ownBlock≠some w1.heap.size fromλe=>by have:=Hav.out _ e;omega)
      clear Hav Hav0
      generalize w1.heap.size+1=B12 at*
      generalize w1.heap.size=B10 at*
      clear u0 u1 ul s0 s1 sl m0 m2' ml mn mu
      have c0:=HBc.out.cell 0
      have c1:=HBc.out.cell 1
      have c2:=HBc.out.lt
      have d0:=HBr.out.cell 0
      have d1:=HBr.out.cell 1
      have d2:=HBr.out.lt
      obtain⟨bd0,bd1⟩:(0<=yv/\yv<=200000)/\(0<=q/\q<=1010):=by
       rw[Hv0.out,<-Hq.out]
       refine⟨⟨la_nonneg rs L lo,?_⟩,Hnd.out _⟩
       have:=la_bound Hr.out hL lo
       omega
      have j5:IntKind.i64.wrap (yv+q)=yv+q:=by rw[IntKind.wrap_i64];omega
      obtain⟨wx,hwx⟩:∃wx,ws++[(⟨lo,hi⟩:Rg)]=wx:=⟨_,rfl⟩
      have Hwx:=Lib.hid hwx
      have hal6:=balloc (brefl W2) (.cells #[.int .i64 lo,.int .i64 hi] 34)
      have Hdr:=Lib.hid (bdrew hal6 1)
      have HBc2:=Lib.hid (HBc.out.later Hdr.out)
      have HBr2:=Lib.hid (HBr.out.later Hdr.out)
      have Hrun1:=Lib.hid (run_app_rg (W:=(W2.alloc (.cells #[.int .i64 lo,.int .i64 hi] 34)).drew) (base:=w.heap.size) (N:=W2.heap.size) (r:=⟨lo,hi⟩) 28 hwx (owL Hhow.out (bdrew hal6 1)) (two_new W2 (.int .i64 lo) (.int .i64 hi) 34) hwl)
      have Hnew2:=Lib.hid (λ(W3:World)(gg cap:Nat)=>two_new W3 (.slice (some ⟨gg,0,none⟩) wx.length cap) (.int .i64 (yv+q)) 406)
      have HX:=Lib.hid (show w.heap.size<=(W2.alloc (.cells #[.int .i64 lo,.int .i64 hi] 34)).drew.heap.size from Nat.le_trans (show w.heap.size<=W2.heap.size by omega) Hdr.out.size)
      have HB1le:=Lib.hid (show B1<=W2.heap.size by omega)
      clear hal6 hwx
      rcases Hhow.out.2 with⟨hvn,hn0⟩|⟨gb,capb,_,hvn,_,_,hcb,_⟩
      ·simp only[Value.slice.injEq]at hvn
       obtain⟨rfl,rfl,rfl⟩:=hvn
       go_region_held3 (λw'=>w'.cell? ⟨B12,0,none⟩=some (.slice none 0 0)/\w'.cell? ⟨B12,1,none⟩=some (.int .i64 yv)/\w'.cell? ⟨B10,0,none⟩=some (.int .i64 lo)/\w'.cell? ⟨B10,1,none⟩=some (.int .i64 hi))
        (first
          |go_keep)
        ((first
          |(refine step_of_run (R:=?R_1) ?hgd_1 (.tmp 70) (.tmp 72) 28 ?ho_1 (.slice none 0 0) (.slice (some ⟨W2.heap.size,0,none⟩) 1 1) ?hs_1 ?hx_1 ?hr_1 ?h_1;(case ho_1=>rfl);(case hgd_1=>rfl);(case hs_1=>rfl);(case hx_1=>rfl);(case hr_1=>exact Hrun1.out);intro v' W3 hR;obtain⟨hown1,hgrow,gg,cap,rfl⟩:=hR;have yb:=HBc2.out.grown hgrow (by simp);have y0:=yb.cell 0;have y1:=yb.cell 1;have yb2:=HBr2.out.grown hgrow (by simp);have y2:=yb2.cell 0;have y3:=yb2.cell 1;have HrB:=Lib.hid (run_app_ch (W:=W3.alloc (.cells #[.slice (some ⟨gg,0,none⟩) wx.length cap,.int .i64 (yv+q)] 406)) (base:=B1) (N:=W3.heap.size) (x:=⟨some ⟨gg,0,none⟩,wx.length,cap,yv+q⟩) 404 (owL (own_grown (owL HAL5.out.own Hdr.out) hgrow (by simp)) (balloc (brefl W3) _)) (Hnew2.out W3 gg cap) (by omega) (by have:=hgrow.size;simp at this ⊢;omega));have HY1:=Lib.hid (yb.later (balloc (brefl W3) (.cells #[.slice (some ⟨gg,0,none⟩) wx.length cap,.int .i64 (yv+q)] 406)));have HY2:=Lib.hid (yb2.later (balloc (brefl W3) (.cells #[.slice (some ⟨gg,0,none⟩) wx.length cap,.int .i64 (yv+q)] 406)));clear yb yb2)
          |(refine step_of_run (R:=?R_4) ?hgd_4 (.tmp 61) (.tmp 79) 404 ?ho_4 av (.slice (some ⟨W3.heap.size,0,none⟩) 1 1) ?hs_4 ?hx_4 ?hr_4 ?h_4;(case ho_4=>rfl);(case hgd_4=>rfl);(case hs_4=>rfl);(case hx_4=>rfl);(case hr_4=>exact HrB.out);intro v' W4 hR;obtain⟨hown2,hgrow2,gg2,cap2,rfl⟩:=hR;have zb:=HY1.out.grown hgrow2 Hav12.out;have z0:=zb.cell 0;have z1:=zb.cell 1;have zb2:=HY2.out.grown hgrow2 Hav10.out;have z2:=zb2.cell 0;have z3:=zb2.cell 1;clear zb zb2)))
       have hb5:=Below.later (Below.later Hdr.out (below_none hgrow)) (balloc (brefl W3) (.cells #[.slice (some ⟨gg,0,none⟩) wx.length cap,.int .i64 (yv+q)] 406))
       have hUa:=HU5.out.later hgl hb5
       have hALa:=HAL5.out.later hb5
       have hrw:av.ownBlock≠some (w.heap.size+1):=λe=>by have:=own_base hALa.own _ e;omega
       have how1:=owL (own_low hown1 HX.out) (balloc (brefl W3) (.cells #[.slice (some ⟨gg,0,none⟩) wx.length cap,.int .i64 (yv+q)] 406))
       have HUf:=Lib.hid (hUa.grown hgl hgrow2 (hALa.noRow hB1N hU1))
       have HRf:=Lib.hid ((Hrg5.out.kept (grown_none hb5) (by simp) (by simp)).kept hgrow2 hrw.symm HavR.out.symm)
       have HMf:=Lib.hid ((Hm5.out.later hb5).kept (W':=W4) (λk c h=>(hgrow2.block k (Array.getElem?_eq_some_iff.1 h).1 (λe=>by
        rcases hALa.own.2 with⟨hh,_⟩|⟨g',cap',cur',hh,_,hc',_⟩
        ·rw[hh]at e;cases e
        ·rw[hh]at e
         simp only[Value.ownBlock,Option.some.injEq]at e
         rw[e,hc']at h
         cases h)).trans h))
       have hlt:((lo:Nat):Int).toNat=lo:=by omega
       have hht:((hi:Nat):Int).toNat=hi:=by omega
       have hle:=la_win Hr.out L Hsw.out
       simp only[hlt,hht]at hle
       have HAf:=Lib.hid (hALa.push (left':=λr=>left (keyR r)&&!(keyR r).sameKey (keyR ⟨lo,hi⟩)) (x:=⟨some ⟨gg,0,none⟩,wx.length,cap,yv+q⟩) (r:=⟨lo,hi⟩) (ws:=wx) hB1N hU1 hgrow2 hown2 (by show yv+q=LA rs L ((lo:Nat):Int).toNat+_;rw[hlt,Hv0.out,Hq.out]) (by show yv+q<=_;rw[Hv0.out,<-Hq.out];exact hle) (by
        rw[<-Hwx.out,<-Hq.out]
        exact ChainOk.snoc (r:=⟨lo,hi⟩) (by show(0:Int)<=((lo:Nat):Int);omega) (by show ChainOk rs _ ((lo:Nat):Int).toNat ws yv;rw[hlt];exact Hcw.out) Hsw.out Hsn.out rfl a1) how1 (λs hs hl hne=>Hleft.out s hs hl hne))
       have hsz4:B1+1<=W4.heap.size:=by have:=hgrow2.size;have:=hb5.size;omega
       clear hb5 hUa hALa how1 hle hown1 hown2 hgrow hgrow2 y0 y1 y2 y3 z0 z1 z2 z3 c0 c1 c2 d0 d1 d2
       go_wp2
       refine hK2 _ _ (m-1) (by omega) ⟨rfl,_,cnt1,_,ps++[⟨some ⟨gg,0,none⟩,wx.length,cap,yv+q⟩],by omega,by simp;omega,Hhas3.out,HUf.out,HRf.out,HAf.out,HMf.out,hsz4,?_⟩
       repeat (first|exact ftL|refine ftN ?_|refine ftS ?_)
      ·simp only[Value.slice.injEq]at hvn
       obtain⟨rfl,hyn,rfl⟩:=hvn
       have k1:(yn:Int)<=(yc:Int):=by omega
       clear hyn hcb
       go_region_held3 (λw'=>w'.cell? ⟨B12,0,none⟩=some (.slice (some ⟨gb,0,none⟩) yn yc)/\w'.cell? ⟨B12,1,none⟩=some (.int .i64 yv)/\w'.cell? ⟨B10,0,none⟩=some (.int .i64 lo)/\w'.cell? ⟨B10,1,none⟩=some (.int .i64 hi))
        (first
          |go_keep)
        ((first
          |(refine step_of_run (R:=?R_7) ?hgd_7 (.tmp 70) (.tmp 72) 28 ?ho_7 (.slice (some ⟨gb,0,none⟩) yn yn) (.slice (some ⟨W2.heap.size,0,none⟩) 1 1) ?hs_7 ?hx_7 ?hr_7 ?h_7;(case ho_7=>rfl);(case hgd_7=>rfl);(case hs_7=>rfl);(case hx_7=>rfl);(case hr_7=>exact Hrun1.out);intro v' W3 hR;obtain⟨hown1,hgrow,gg,cap,rfl⟩:=hR;have yb:=HBc2.out.grown hgrow (by simp);have y0:=yb.cell 0;have y1:=yb.cell 1;have yb2:=HBr2.out.grown hgrow (by simp);have y2:=yb2.cell 0;have y3:=yb2.cell 1;have HrB:=Lib.hid (run_app_ch (W:=W3.alloc (.cells #[.slice (some ⟨gg,0,none⟩) wx.length cap,.int .i64 (yv+q)] 406)) (base:=B1) (N:=W3.heap.size) (x:=⟨some ⟨gg,0,none⟩,wx.length,cap,yv+q⟩) 404 (owL (own_grown (owL HAL5.out.own Hdr.out) hgrow (by simp)) (balloc (brefl W3) _)) (Hnew2.out W3 gg cap) (by omega) (by have:=hgrow.size;simp at this ⊢;omega));have HY1:=Lib.hid (yb.later (balloc (brefl W3) (.cells #[.slice (some ⟨gg,0,none⟩) wx.length cap,.int .i64 (yv+q)] 406)));have HY2:=Lib.hid (yb2.later (balloc (brefl W3) (.cells #[.slice (some ⟨gg,0,none⟩) wx.length cap,.int .i64 (yv+q)] 406)));clear yb yb2)
          |(refine step_of_run (R:=?R_8) ?hgd_8 (.tmp 61) (.tmp 79) 404 ?ho_8 av (.slice (some ⟨W3.heap.size,0,none⟩) 1 1) ?hs_8 ?hx_8 ?hr_8 ?h_8;(case ho_8=>rfl);(case hgd_8=>rfl);(case hs_8=>rfl);(case hx_8=>rfl);(case hr_8=>exact HrB.out);intro v' W4 hR;obtain⟨hown2,hgrow2,gg2,cap2,rfl⟩:=hR;have zb:=HY1.out.grown hgrow2 Hav12.out;have z0:=zb.cell 0;have z1:=zb.cell 1;have zb2:=HY2.out.grown hgrow2 Hav10.out;have z2:=zb2.cell 0;have z3:=zb2.cell 1;clear zb zb2)))
       have hb5:=Below.later (Below.later Hdr.out (below_none hgrow)) (balloc (brefl W3) (.cells #[.slice (some ⟨gg,0,none⟩) wx.length cap,.int .i64 (yv+q)] 406))
       have hUa:=HU5.out.later hgl hb5
       have hALa:=HAL5.out.later hb5
       have hrw:av.ownBlock≠some (w.heap.size+1):=λe=>by have:=own_base hALa.own _ e;omega
       have how1:=owL (own_low hown1 HX.out) (balloc (brefl W3) (.cells #[.slice (some ⟨gg,0,none⟩) wx.length cap,.int .i64 (yv+q)] 406))
       have HUf:=Lib.hid (hUa.grown hgl hgrow2 (hALa.noRow hB1N hU1))
       have HRf:=Lib.hid ((Hrg5.out.kept (grown_none hb5) (by simp) (by simp)).kept hgrow2 hrw.symm HavR.out.symm)
       have HMf:=Lib.hid ((Hm5.out.later hb5).kept (W':=W4) (λk c h=>(hgrow2.block k (Array.getElem?_eq_some_iff.1 h).1 (λe=>by
        rcases hALa.own.2 with⟨hh,_⟩|⟨g',cap',cur',hh,_,hc',_⟩
        ·rw[hh]at e;cases e
        ·rw[hh]at e
         simp only[Value.ownBlock,Option.some.injEq]at e
         rw[e,hc']at h
         cases h)).trans h))
       have hlt:((lo:Nat):Int).toNat=lo:=by omega
       have hht:((hi:Nat):Int).toNat=hi:=by omega
       have hle:=la_win Hr.out L Hsw.out
       simp only[hlt,hht]at hle
       have HAf:=Lib.hid (hALa.push (left':=λr=>left (keyR r)&&!(keyR r).sameKey (keyR ⟨lo,hi⟩)) (x:=⟨some ⟨gg,0,none⟩,wx.length,cap,yv+q⟩) (r:=⟨lo,hi⟩) (ws:=wx) hB1N hU1 hgrow2 hown2 (by show yv+q=LA rs L ((lo:Nat):Int).toNat+_;rw[hlt,Hv0.out,Hq.out]) (by show yv+q<=_;rw[Hv0.out,<-Hq.out];exact hle) (by
        rw[<-Hwx.out,<-Hq.out]
        exact ChainOk.snoc (r:=⟨lo,hi⟩) (by show(0:Int)<=((lo:Nat):Int);omega) (by show ChainOk rs _ ((lo:Nat):Int).toNat ws yv;rw[hlt];exact Hcw.out) Hsw.out Hsn.out rfl a1) how1 (λs hs hl hne=>Hleft.out s hs hl hne))
       have hsz4:B1+1<=W4.heap.size:=by have:=hgrow2.size;have:=hb5.size;omega
       clear hb5 hUa hALa how1 hle hown1 hown2 hgrow hgrow2 y0 y1 y2 y3 z0 z1 z2 z3 c0 c1 c2 d0 d1 d2
       go_wp2
       refine hK2 _ _ (m-1) (by omega) ⟨rfl,_,cnt1,_,ps++[⟨some ⟨gg,0,none⟩,wx.length,cap,yv+q⟩],by omega,by simp;omega,Hhas3.out,HUf.out,HRf.out,HAf.out,HMf.out,hsz4,?_⟩
       repeat (first|exact ftL|refine ftN ?_|refine ftS ?_)
     ·have hz1:((hi:Int)==(h:Int))=false:=by simp;omega
      have hz2:decide ((hi:Int)=(h:Int))=false:=by simp;omega
      have HAL4:=Lib.hid (show AL w (w1.alloc (.cells #[.int .i64 lo,.int .i64 hi] 34)) rs L B1 h av ps (λr=>left (keyR r)&&!(keyR r).sameKey (keyR ⟨lo,hi⟩))from HAL3.out.left_ (λr hr=>by
       by_cases h1:r∈winsL rs
       ·by_cases h2:r=⟨lo,hi⟩
        ·refine .inr (.inr ?_)
         rw[h2];show(hi:Int)≠h;omega
        ·exact .inl (Hleft.out r h1 hr h2)
       ·exact .inr (.inl h1)))
      clear HAL3 he
      go_wp2_with fail
      refine hK2 _ _ (m-1) (by omega) ⟨rfl,_,cnt1,av,ps,by omega,by omega,Hhas3.out,HU3.out,Hrg3.out,HAL4.out,Hm3.out,by simp;omega,?_⟩
      repeat (first|exact ftL|refine ftN ?_|refine ftS ?_)
   ·obtain rfl:h=101:=by omega
    clear hK
    have u0:=(hU.ub.cell (101*2)).trans (uArr_sl F (by omega))
    have u1:=(hU.ub.cell (101*2+1)).trans (uArr_v F (by omega))
    unfold Ch.sl at u0
    obtain⟨hv0,ws0,hc0',ho0⟩:=hU.rows 101 (Nat.le_refl _)
    rw[hv0]at hc0'
    have HU:=Lib.hid hU
    have Hm1:=Lib.hid hm
    have Hc0:=Lib.hid hc0'
    have Ho0:=Lib.hid ho0
    clear hv0 hc0' ho0 hU hm hown
    have HA2:=Lib.hid (show(F 101).n=ws0.length from by
     rcases Ho0.out.2 with⟨hh,h0⟩|⟨_,_,_,hh,_⟩
     ·unfold Ch.sl at hh;simp only[Value.slice.injEq]at hh;omega
     ·unfold Ch.sl at hh;simp only[Value.slice.injEq]at hh;exact hh.2.1)
    go_wp2
    refine postM_ret (B:=w.heap.size+1+1) (v:=.slice (F 101).A (F 101).n (F 101).c) Hm1.out (λW'=>results_tmp (t:=2) rfl _ _ _) (λW' hK=>?_)
    refine⟨(F 101).A,(F 101).c,ws0,by rw[<-HA2.out],?_,?_,Hc0.out⟩
    ·have hbl:=HU.out.fv.bel
     exact hbl.trans ⟨hK.os,hK.tape,hK.output,hK.size,λi hi=>hK.low i (by omega) (by have:=hbl.size;omega)⟩
    ·have h5:=own_kept Ho0.out hK
     unfold Ch.sl at h5
     rw[HA2.out]at h5
     exact h5
  ·obtain⟨s,rfl,hS⟩:=HR.out.is.only kl (HR.out.has kl hlk)
   have hsm:=HR.out.is.small s hS
   obtain rfl:x=.agg #[.int .i64 s.lo,.int .i64 s.hi]:=keyed_rg.inj hkey (keyR_of s hsm)
   obtain⟨cv,rfl,hy,hwf⟩:=plainElem_int_inv und_i64 hv
   obtain rfl:cv=needP (L:Int) rs s:=by
    have h1:=(HR.out.is.yes s hS).2 (.lit (.int .i64 0))
    rw[hat,hy]at h1
    simpa using h1
   have hR1:=HR.out.grown hgl hgr
   have hm1:=Hm.out.kept (W':=w1) (λk c h=>(hgr.block k (Array.getElem?_eq_some_iff.1 h).1 (λe=>by
    simp at e
    subst e
    obtain⟨_,_,_,_,_,_,_,_,_,hr,_⟩:=Hrg.out
    rw[hr]at h;cases h)).trans h)
   obtain⟨m0,m2,ml,mn⟩:=hR1.cells
   have hGs:=balloc (brefl w1) (.cells #[.int .i64 s.lo,.int .i64 s.hi] 34)
   have hBs:Blk (w1.alloc (.cells #[.int .i64 s.lo,.int .i64 s.hi] 34)) w1.heap.size 34 #[.int .i64 s.lo,.int .i64 s.hi]:=Blk.new _ _ _
   have s0:=hBs.cell 0
   have s1:=hBs.cell 1
   have sl:=hBs.lt
   have HR1:=Lib.hid (hR1.later hGs)
   have Hm1:=Lib.hid (hm1.later hGs)
   have Hrg1:=Lib.hid (show RangesM (w1.alloc (.cells #[.int .i64 s.lo,.int .i64 s.hi] 34)) (w.heap.size+1) r n5 D (λz=>left z&&!z.sameKey (keyR s)) cnt1 from hrg1.kept (grown_none hGs) (by simp) (by simp))
   have Hsm:=Lib.hid hsm
   clear hkey hlk hv hat hgr hsz hS hy hwf hR1 hm1 hrg1 hGs hBs hsm
   clear HR Hrg Hm
   generalize hq:needP (L:Int) rs s=q at*
   have Hq:=Lib.hid hq
   clear hq
   by_cases h0:q=0
   ·have H0:=Lib.hid h0
    have hz1:(q==0)=true:=by simpa using h0
    have hz2:decide (q=0)=true:=by simpa using h0
    clear h0
    obtain⟨w',cnt',hrunD,hrg3,hle,hturn⟩:=Hrg1.out.drop keyed_rg und_mrg (keyR_of s Hsm.out) 0
    rw[Maps.strike_twice]at hrg3
    have HR3:=Lib.hid (HR1.out.gone hgl hturn.grown (by rw[Hq.out];exact H0.out) Hsm.out)
    have Hm3:=Lib.hid (Hm1.out.kept (W':=w') (λk c h=>(hturn.grown.block k (Array.getElem?_eq_some_iff.1 h).1 (λe=>by
     simp at e
     subst e
     obtain⟨_,_,hb,_⟩:=Hrg1.out.owns
     rw[hb]at h;cases h)).trans h))
    have Hrg3:=Lib.hid hrg3
    clear hrg3 hturn HR1 Hm1 Hrg1
    go_wp2
    refine hK _ _ (m-1) (by omega) ⟨rfl,_,_,cnt',by omega,HR3.out,Hrg3.out,Hm3.out,?_⟩
    repeat (first|exact ftL|refine ftN ?_|refine ftS ?_)
   ·have HR3:=Lib.hid (HR1.out.stay (s:=s) (by rw[Hq.out];exact h0) Hsm.out)
    have hz1:(q==0)=false:=by simpa using h0
    have hz2:decide (q=0)=false:=by simpa using h0
    clear h0 HR1
    go_wp2
    refine hK _ _ (m-1) (by omega) ⟨rfl,_,_,cnt1,by omega,HR3.out,Hrg1.out,Hm1.out,?_⟩
    repeat (first|exact ftL|refine ftN ?_|refine ftS ?_)
 case stop=>
  intro D' c pre W5 hD' hI5 hd
  exact hI5.elim
end Go.Proofs.YtifehdoghfnhoaaGreatDoor
