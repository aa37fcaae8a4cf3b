/- Peel: the best proof, walked. -/
import Derived.Test.YtednconodjeniaaGreatPlG
import Derived.Test.YtednconodjeniaaGreatPlK
import Derived.OwnWalkIn
import Derived.Carry
namespace Go.Proofs.YtednconodjeniaaGreat.P
open Go.RowKit Go.Shelf Go.Maps
attribute [local go_sem] Oper.semAt_some
structure PM(w W:World)(T k n:Nat)(S:Pr->Prop)(ps:List Pr)(v:Value)(wt:Pr->Int×Int):Prop where
 bel:Below w.heap.size w W
 b0:Blk W w.heap.size 99 #[.pointer (some ⟨T,0,none⟩)]
 b1:Blk W (w.heap.size+1) 120 #[.int .i64 0,.int .i64 0,.int .i64 0,.int .i64 0]
 b3:Blk W (w.heap.size+1+1+1) 199 #[.map (some (w.heap.size+1+1))]
 b4:Blk W (w.heap.size+1+1+1+1) 200 #[v]
 own:∃D:DP,OwnsM W (w.heap.size+1+1) k D/\MapIs n D S wt
 row:W.ownsRow (w.heap.size+1+1+1+1+1) 120 4 v ps.length (ps.flatMap encP)
section
variable{w W W':World}{T k n:Nat}{S S':Pr->Prop}{ps:List Pr}{v:Value}{wt:Pr->Int×Int}
theorem PM.later(h:PM w W T k n S ps v wt)(hb:Below W.heap.size W W'):PM w W' T k n S ps v wt:=by
 obtain⟨D,h1,h2⟩:=h.own
 exact⟨Below.later h.bel hb,h.b0.later hb,h.b1.later hb,h.b3.later hb,h.b4.later hb,⟨D,h1.kept (grown_none hb) (by simp),h2⟩,own_later h.row hb⟩
theorem PM.kept{B:Nat}(h:PM w W T k n S ps v wt)(hk:Kept B W W')(hB:w.heap.size+1+1<B):PM w W' T k n S ps v wt:=by
 obtain⟨D,⟨es,clock,hb,F,hs,hD⟩,h2⟩:=h.own
 have hlt:=(Array.getElem?_eq_some_iff.1 hb).1
 exact⟨h.bel.trans ⟨hk.os,hk.tape,hk.output,hk.size,λi hi=>hk.low i (by omega) (by have:=h.bel.size;omega)⟩,h.b0.kept hk,h.b1.kept hk,h.b3.kept hk,h.b4.kept hk,⟨D,⟨es,clock,(hk.low _ (by omega) hlt).trans hb,F,hs,hD⟩,h2⟩,own_kept h.row hk⟩
theorem PM.cells(h:PM w W T k n S ps v wt):W.cell? ⟨w.heap.size,0,none⟩=some (.pointer (some ⟨T,0,none⟩))/\W.cell? ⟨w.heap.size+1+1+1,0,none⟩=some (.map (some (w.heap.size+1+1)))/\W.cell? ⟨w.heap.size+1+1+1+1,0,none⟩=some v/\w.heap.size+1+1+1+1<W.heap.size:=⟨h.b0.cell 0,h.b3.cell 0,h.b4.cell 0,h.b4.lt⟩
theorem PM.congr(h:PM w W T k n S ps v wt)(hS:∀p,S p↔S' p):PM w W T k n S' ps v wt:=by
 obtain⟨D,h1,h2⟩:=h.own
 exact⟨h.bel,h.b0,h.b1,h.b3,h.b4,⟨D,h1,h2.congr hS⟩,h.row⟩
theorem PM.put(h:PM w W T k n S ps v wt)(hn8:n<=8)(hk:k<=2000){x:Pr}(hx:PrOk n x):
 ∃W',(Instr.mapUpdate 199 (.map (some (w.heap.size+1+1))) (pv x) (qv (wt x))).run Tryz.prog W=.ok () W'/\PM w W' T (k+1) n (λq=>S q\/q=x) ps v wt/\W.grownBy W' (some (w.heap.size+1+1))/\∃es cl,W.heap[w.heap.size+1+1]? =some (.map es cl):=by
 obtain⟨D,h1,h2⟩:=h.own
 obtain⟨W',hr,ho,hg⟩:=h1.update keyed_pr und_mpr (by simp only[maxLen];omega) (keyP_of hn8 hx) (d:=.held (qv (wt x))) (ps:=[]) rfl
 obtain⟨es,cl,hb,_⟩:=h1
 refine⟨W',hr,⟨h.bel.trans ⟨hg.os,hg.tape,hg.output,hg.size,λi hi=>hg.block i (by have:=h.bel.size;omega) (λe=>by simp at e;omega)⟩,h.b0.grown hg (by simp<;>omega),h.b1.grown hg (by simp),h.b3.grown hg (by simp),h.b4.grown hg (by simp<;>omega),⟨_,ho,h2.put hn8 x hx⟩,own_grown h.row hg (λg hg2 e=>by have:=own_base h.row g hg2;simp at e;omega)⟩,hg,es,cl,hb⟩
theorem PM.add(h:PM w W T k n S ps v wt){x:Pr}{v':Value}(hg:W.grownBy W' v.ownBlock)(ho:W'.ownsRow (w.heap.size+1+1+1+1+1) 120 4 v' (ps.length+1) (ps.flatMap encP++encP x)):PM w (W'.setCell ⟨w.heap.size+1+1+1+1,0,none⟩ v') T k n S (ps++[x]) v' wt:=by
 obtain⟨D,h1,h2⟩:=h.own
 have hba:∀g,v.ownBlock=some g->w.heap.size+1+1+1+1+1<=g:=own_base h.row
 have hba':∀g,v'.ownBlock=some g->w.heap.size+1+1+1+1+1<=g:=own_base ho
 have hne:∀b,b<w.heap.size+1+1+1+1+1->v.ownBlock≠some b:=λb hb e=>by have:=hba b e;omega
 refine⟨(h.bel.trans ⟨hg.os,hg.tape,hg.output,hg.size,λi hi=>hg.block i (by have:=h.bel.size;omega) (λe=>hne i (by omega) e.symm)⟩).setCell (by show w.heap.size<=w.heap.size+1+1+1+1;omega) _,(h.b0.grown hg (hne _ (by omega))).other (by show w.heap.size+1+1+1+1≠_;omega) _,(h.b1.grown hg (hne _ (by omega))).other (by show w.heap.size+1+1+1+1≠_;omega) _,(h.b3.grown hg (hne _ (by omega))).other (by show w.heap.size+1+1+1+1≠_;omega) _,(h.b4.grown hg (hne _ (by omega))).set 0 _,⟨D,?_,h2⟩,?_⟩
 ·refine(h1.kept hg (λe=>hne _ (by omega) e.symm)).kept (row:=some (w.heap.size+1+1+1+1)) ?_ (by simp<;>omega)
  exact⟨rfl,rfl,rfl,by simp[World.setCell],λk _ hne=>Below.heap_setCell W' _ _ k (λe=>hne (by rw[e]))⟩
 ·have h3:=own_other ho ⟨w.heap.size+1+1+1+1,0,none⟩ (λe=>by have:=hba' _ e;simp at this;omega) v'
  simpa[List.flatMap_append]using h3
end
theorem pm_start(w:World)(T n:Nat)(wt:Pr->Int×Int):PM w (((((w.alloc (.cells #[.pointer (some ⟨T,0,none⟩)] 99)).alloc (.cells #[.int .i64 0,.int .i64 0,.int .i64 0,.int .i64 0] 120)).alloc (.map #[] 0)).alloc (.cells #[.map (some (w.heap.size+1+1))] 199)).alloc (.cells #[.slice none 0 0] 200)) T 0 n (λ_=>False) [] (.slice none 0 0) wt:=by
 refine⟨balloc (balloc (balloc (balloc (balloc (brefl w) _) _) _) _) _,((((Blk.new w _ _).alloc _).alloc _).alloc _).alloc _,?_,?_,?_,⟨.map [],?_,MapIs.empty n wt⟩,World.ownsRow_nil _ _ _ _⟩
 ·have h5:=(((Blk.new (w.alloc (.cells #[.pointer (some ⟨T,0,none⟩)] 99)) 120 #[.int .i64 0,.int .i64 0,.int .i64 0,.int .i64 0]).alloc (.map #[] 0)).alloc (.cells #[.map (some (w.heap.size+1+1))] 199)).alloc (.cells #[.slice none 0 0] 200)
  rw[World.size_alloc]at h5
  exact h5
 ·have h5:=(Blk.new (((w.alloc (.cells #[.pointer (some ⟨T,0,none⟩)] 99)).alloc (.cells #[.int .i64 0,.int .i64 0,.int .i64 0,.int .i64 0] 120)).alloc (.map #[] 0)) 199 #[.map (some (w.heap.size+1+1))]).alloc (.cells #[.slice none 0 0] 200)
  rw[World.size_alloc,World.size_alloc,World.size_alloc]at h5
  exact h5
 ·have h5:=Blk.new ((((w.alloc (.cells #[.pointer (some ⟨T,0,none⟩)] 99)).alloc (.cells #[.int .i64 0,.int .i64 0,.int .i64 0,.int .i64 0] 120)).alloc (.map #[] 0)).alloc (.cells #[.map (some (w.heap.size+1+1))] 199)) 200 #[.slice none 0 0]
  rw[World.size_alloc,World.size_alloc,World.size_alloc,World.size_alloc]at h5
  exact h5
 ·have h5:=((World.ownsMap_made (H:=Value) ((w.alloc (.cells #[.pointer (some ⟨T,0,none⟩)] 99)).alloc (.cells #[.int .i64 0,.int .i64 0,.int .i64 0,.int .i64 0] 120)) Tryz.prog 120 rdQ).alloc (.cells #[.map (some (w.heap.size+1+1))] 199)).alloc (.cells #[.slice none 0 0] 200)
  rw[World.size_alloc,World.size_alloc]at h5
  exact h5
theorem keepsFrom_row{B base size n:Nat}{W W':World}{e:TypeId}{v:Value}{xs:List Value}(ho:W.ownsRow base e size v n xs)(hg:W.grownBy W' v.ownBlock):KeepsFrom B W W':=
 ⟨hg.size,λk o _ hk hc=>(hg.block k (Array.getElem?_eq_some_iff.1 hk).1 (λe=>by
   rcases ho.2 with⟨rfl,_⟩|⟨g,cap,cur,rfl,_,hgb,_⟩
   ·cases e
   ·simp[Value.ownBlock]at e
    subst e
    rw[hgb]at hk
    cases hk
    simp[Obj.isCells]at hc)).trans hk⟩
theorem keepD_row{W0 W W':World}{base size n:Nat}{e:TypeId}{v:Value}{xs:List Value}(h:KeepD W0 W)(ho:W.ownsRow base e size v n xs)(hg:W.grownBy W' v.ownBlock):KeepD W0 W':=λk c hk=>
 (keepsFrom_row (B:=0) ho hg).same k _ (Nat.zero_le _) (h k c hk) rfl
theorem keepD_map{W0 W W':World}{b:Nat}{es:Array MapEntry}{cl:Nat}(h:KeepD W0 W)(hb:W.heap[b]? =some (.map es cl)) (hg:W.grownBy W' (some b)):KeepD W0 W':=by
 intro k c hk
 have h1:=h k c hk
 refine(hg.block k (Array.getElem?_eq_some_iff.1 h1).1 (λe=>?_)).trans h1
 simp at e
 subst e
 rw[hb]at h1
 cases h1
theorem keepD_set{W0 W:World}(h:KeepD W0 W)(p:Addr)(u:Value):KeepD W0 (W.setCell p u):=λk c hk=>(KeepsFrom.set (B:=0) W p u).same k _ (Nat.zero_le _) (h k c hk) rfl
theorem keepD_kept{W0 W W':World}(h:KeepD W0 W)(hk:Kept W0.heap.size W W'):KeepD W0 W':=λk c h0=>(hk.low k (Array.getElem?_eq_some_iff.1 h0).1 (Array.getElem?_eq_some_iff.1 (h k c h0)).1).trans (h k c h0)
theorem info_pr:(Tryz.prog.info? 120).map (λi=>(i.zero,i.size,i.bytes))=some (some (.agg #[.int .i64 0,.int .i64 0,.int .i64 0,.int .i64 0]),4,32):=by kernel_rfl
theorem und_prs:Tryz.prog.underlying 200=some (.slice 120):=by kernel_rfl
theorem leavesM_marks2{P:Program}{F:Fence}{n:Nat}{fn:Func}{tmps:Array Value}{R:Ending->World->Prop}{B:Nat}:∀(ds:List Deferred)(W:World)(v:Value),Marks B W ds->
 (∀W',Kept B W W'->(results fn tmps).run P W'=.ok v W')->(∀W',Kept B W W'->R (.returned v) W')->LeavesInM F n P fn tmps R ds .returning W:=by
 intro ds
 induction ds with
 |nil=>
  intro W v _ hr hR
  exact⟨v,hr W (Kept.refl B W),hR W (Kept.refl B W)⟩
 |cons d ds ih=>
  intro W v hm hr hR
  obtain⟨Ds,hds,hnd,hD⟩:=hm
  cases Ds with
  |nil=>simp at hds
  |cons D Ds=>
   simp only[List.map_cons,List.cons.injEq]at hds
   obtain⟨rfl,rfl⟩:=hds
   obtain⟨hDB,hDh⟩:=hD D (by simp)
   refine⟨by simp,.inl ⟨D,W.putObj D (.deferred none),rfl,run_takeDeferred hDh,?_⟩⟩
   have hk:Kept B W (W.putObj D (.deferred none)):=Kept.of_grown (grownBy_putObj' W D _) (λr e=>by cases e;exact⟨hDB,_,hDh,rfl⟩)
   refine ih _ v ⟨Ds,rfl,(List.nodup_cons.1 hnd).2,λE hE=>⟨(hD E (by simp[hE])).1,?_⟩⟩ (λW' hk'=>hr W' (hk.trans hk')) (λW' hk'=>hR W' (hk.trans hk'))
   have hne:E≠D:=λe=>(List.nodup_cons.1 hnd).1 (e▸hE)
   rw[World.putObj_heap_other hne]
   exact(hD E (by simp[hE])).2
theorem postM_ret2{P:Program}{fn:Func}{R:Ending->World->Prop}{a:Act}{B:Nat}{W:World}{v:Value}(hm:Marks B W a.defers)(hr:∀W',Kept B W W'->(results fn a.tmps).run P W'=.ok v W')(hR:∀W',Kept B W W'->R (.returned v) W'):bodyPostM Fence.wide 9 P fn R .ret a W:=
 leavesM_marks2 _ _ _ hm hr hR
theorem PM.other{w W:World}{T k n:Nat}{S:Pr->Prop}{ps:List Pr}{v:Value}{wt:Pr->Int×Int}(h:PM w W T k n S ps v wt){g:Nat}(hg:w.heap.size+1+1+1+1<g)(hne:v.ownBlock≠some g)(j:Nat)(u:Value):PM w (W.setCell ⟨g,j,none⟩ u) T k n S ps v wt:=by
 obtain⟨D,h1,h2⟩:=h.own
 refine⟨h.bel.setCell (by show w.heap.size<=g;omega) _,h.b0.other (by show g≠_;omega) _,h.b1.other (by show g≠_;omega) _,h.b3.other (by show g≠_;omega) _,h.b4.other (by show g≠_;omega) _,⟨D,?_,h2⟩,own_other h.row _ hne _⟩
 refine h1.kept (row:=some g) ?_ (by simp;omega)
 exact⟨rfl,rfl,rfl,by simp[World.setCell],λk _ hne=>Below.heap_setCell W _ _ k (λe=>hne (by rw[e]))⟩
structure PR(w W:World)(n r gq:Nat)(ps:List Pr)(v:Value)(wt:Pr->Int×Int)(x:Int×Int)(D:DP)(left:Lit->Bool):Prop where
 bel:Below w.heap.size w W
 b1:Blk W (w.heap.size+1) 120 #[.int .i64 0,.int .i64 0,.int .i64 0,.int .i64 0]
 b3:Blk W (w.heap.size+1+1+1) 199 #[.map (some (w.heap.size+1+1))]
 b4:Blk W (w.heap.size+1+1+1+1) 200 #[v]
 bq:Blk W gq 59 #[.int .i64 x.1,.int .i64 x.2]
 row:W.ownsRow (w.heap.size+1+1+1+1+1) 120 4 v ps.length (ps.flatMap encP)
 is:MapIs n D (λp=>PrOk n p/\(left (keyP p)=true\/wt p=x)) wt
 has:∀z,left z=true->has D z=true
 rl:w.heap.size+1+1+1+1<r
 gl:w.heap.size+1+1+1+1<gq
 gr:gq<r
 rr:v.ownBlock≠some r
section
variable{w W W':World}{n r gq:Nat}{ps:List Pr}{v:Value}{wt:Pr->Int×Int}{x:Int×Int}{D:DP}{left:Lit->Bool}
theorem PR.later(h:PR w W n r gq ps v wt x D left)(hb:Below W.heap.size W W'):PR w W' n r gq ps v wt x D left:=
 ⟨Below.later h.bel hb,h.b1.later hb,h.b3.later hb,h.b4.later hb,h.bq.later hb,own_later h.row hb,h.is,h.has,h.rl,h.gl,h.gr,h.rr⟩
theorem PR.cells(h:PR w W n r gq ps v wt x D left):W.cell? ⟨w.heap.size+1+1+1,0,none⟩=some (.map (some (w.heap.size+1+1)))/\W.cell? ⟨w.heap.size+1+1+1+1,0,none⟩=some v/\W.cell? ⟨gq,0,none⟩=some (.int .i64 x.1)/\W.cell? ⟨gq,1,none⟩=some (.int .i64 x.2)/\gq<W.heap.size/\w.heap.size+1+1+1+1<W.heap.size:=⟨h.b3.cell 0,h.b4.cell 0,h.bq.cell 0,h.bq.cell 1,h.bq.lt,h.b4.lt⟩
theorem PR.grown(h:PR w W n r gq ps v wt x D left)(hg:W.grownBy W' (some r)):PR w W' n r gq ps v wt x D left:=by
 have hrl:=h.rl
 have hgr:=h.gr
 exact⟨h.bel.trans ⟨hg.os,hg.tape,hg.output,hg.size,λi hi=>hg.block i (by have:=h.bel.size;omega) (λe=>by simp at e;omega)⟩,h.b1.grown hg (by simp;omega),h.b3.grown hg (by simp;omega),h.b4.grown hg (by simp;omega),h.bq.grown hg (by simp;omega),own_grown h.row hg (λg hg2 e=>h.rr (by rw[hg2];exact e.symm)),h.is,h.has,hrl,h.gl,hgr,h.rr⟩
theorem PR.stay(h:PR w W n r gq ps v wt x D left)(hn8:n<=8){p:Pr}(hs:wt p=x)(hp:PrOk n p):PR w W n r gq ps v wt x D (λz=>left z&&!z.sameKey (keyP p)):=by
 refine⟨h.bel,h.b1,h.b3,h.b4,h.bq,h.row,h.is.congr (λq=>?_),λz hz=>h.has z (by simp at hz;exact hz.1),h.rl,h.gl,h.gr,h.rr⟩
 by_cases e:q=p
 ·subst e
  exact⟨λhh=>⟨hh.1,.inr hs⟩,λhh=>⟨hh.1,.inr hs⟩⟩
 ·constructor
  ·rintro⟨h0,h1⟩
   refine⟨h0,h1.imp_left λh1=>?_⟩
   have hne:keyP q≠keyP p:=λe'=>e (keyP_inj hn8 h0 hp e')
   simp[h1,sameKey_ne hne]
  ·rintro⟨h0,h1⟩
   exact⟨h0,h1.imp_left λh1=>by simp at h1;exact h1.1⟩
theorem PR.gone(h:PR w W n r gq ps v wt x D left)(hg:W.grownBy W' (some (w.heap.size+1+1)))(hn8:n<=8){p:Pr}(hs:¬wt p=x)(hp:PrOk n p):PR w W' n r gq ps v wt x (D.del (keyP p)) (λz=>left z&&!z.sameKey (keyP p)):=by
 have hself:(keyP p).sameKey (keyP p)=true:=WideAt.sameKey_self (keyed_pr.key (keyP_of hn8 hp))
 have hgl:=h.gl
 refine⟨h.bel.trans ⟨hg.os,hg.tape,hg.output,hg.size,λi hi=>hg.block i (by have:=h.bel.size;omega) (λe=>by simp at e;omega)⟩,h.b1.grown hg (by simp),h.b3.grown hg (by simp),h.b4.grown hg (by simp<;>omega),h.bq.grown hg (by simp<;>omega),own_grown h.row hg (λg hg2 e=>by have:=own_base h.row g hg2;simp at e;omega),(h.is.del hn8 p hp).congr (λq=>?_),λz hz=>?_,h.rl,hgl,h.gr,h.rr⟩
 ·by_cases e:q=p
  ·subst e
   constructor
   ·exactλhh=>absurd rfl hh.2
   ·rintro⟨h0,h1|h1⟩
    ·simp[hself]at h1
    ·exact absurd h1 hs
  ·constructor
   ·rintro⟨⟨h0,h1⟩,_⟩
    refine⟨h0,h1.imp_left λh1=>?_⟩
    have hne:keyP q≠keyP p:=λe'=>e (keyP_inj hn8 h0 hp e')
    simp[h1,sameKey_ne hne]
   ·rintro⟨h0,h1⟩
    exact⟨⟨h0,h1.imp_left λh1=>by simp at h1;exact h1.1⟩,e⟩
 ·simp at hz
  have hne:z≠keyP p:=λe=>by subst e;rw[hself]at hz;simp at hz
  rw[has_del_other hne]
  exact h.has z hz.1
end
def NewQ(B:Nat)(v:Value)(W:World):Prop:=∃g,v=.pointer (some ⟨g,0,none⟩)/\B<g/\Blk W g 59 #[.int .i64 0,.int .i64 0]
theorem NewQ.stab(B:Nat):∀v W W',Gr W W'->NewQ B v W->NewQ B v W':=λ_ _ _ hG⟨g,h1,h2,h3⟩=>⟨g,h1,h2,h3.later hG⟩
set_option maxRecDepth 100000 in
set_option maxHeartbeats 8000000 in
theorem proof_any(T n:Nat)(A:Option Addr)(c:Nat)(wt:Pr->Int×Int)(w:World)(hn2:2<=n)(hn8:n<=8)(hT:T<w.heap.size)(ht:w.cell? ⟨T,0,none⟩=some (.slice A n c))(hsm:∀p,PrOk n p->smQ (wt p)/\0<(wt p).2)
 (hprov:∀W p,Below w.heap.size w W->PrOk n p->Calls Tryz.prog 106 #[.pointer (some ⟨T,0,none⟩),pv p] W λe w'=>e=.returned (qv (wt p))/\Below W.heap.size W w'):
 Calls Tryz.prog 107 #[.pointer (some ⟨T,0,none⟩)] w λe w'=>∃p,e=.returned (pv p)/\Below w.heap.size w w'/\PrOk n p/\∀q,PrOk n q->leQ (wt p) (wt q):=by
 have Hsm:=Lib.hid hsm
 have Hprov:=Lib.hid hprov
 have Ht:=Lib.hid ht
 clear hsm hprov ht
 refine calls_of_marks Tryz.func107 rfl ?_
 simp only[Tryz.ntmps107,List.size_toArray,List.length_cons,List.length_nil,Nat.reduceAdd,Nat.reduceSub,Array.replicate_succ,Array.replicate_zero,List.push_toArray,List.append_toArray,List.nil_append,List.cons_append]
 have hmm:=@run_makeMap Tryz.prog
 go_wp2_with fail
 clear hmm
 have HM0:=Lib.hid (pm_start w T n wt)
 refine(proofs_any T _).mono ?_
 generalize ((((w.alloc (.cells #[.pointer (some ⟨T,0,none⟩)] 99)).alloc (.cells #[.int .i64 0,.int .i64 0,.int .i64 0,.int .i64 0] 120)).alloc (.map #[] 0)).alloc (.cells #[.map (some (w.heap.size+1+1))] 199)).alloc (.cells #[.slice none 0 0] 200)=W0 at*
 rintro e w3⟨rfl,hw3⟩
 have hb3:Below W0.heap.size W0 w3:=by rw[<-hw3];exact balloc (brefl _) _
 have hM3:=HM0.out.later hb3
 have d1:w3.cell? ⟨W0.heap.size,0,none⟩=some (.pointer (some ⟨T,0,none⟩)):=by rw[<-hw3];exact(Blk.new W0 _ _).cell 0
 have d2:w3.cell? ⟨T,0,none⟩=some (.slice A n c):=(hM3.bel.cell (p:=⟨T,0,none⟩) hT).trans Ht.out
 have d3:W0.heap.size<w3.heap.size:=by rw[<-hw3];simp
 have d4:T<w3.heap.size:=by have:=hM3.bel.size;omega
 have HW3:=Lib.hid (show w.heap.size+1+1+1+1<w3.heap.size from hM3.b4.lt)
 have HM3:=Lib.hid hM3
 obtain⟨m0,m1,m2,ml⟩:=HM0.out.cells
 clear hw3 hb3 hM3 HM0
 go_wp2_with fail
 clear m0 m1 m2 ml
 refine range_prs (B1:=W0.heap.size) (T:=T) (n:=n) (A:=A) (c:=c) (d:=5) (w:=w3) rfl hn8 d1 d2 d3 d4
  (λ(pre:List (P8 n))W=>∃(k:Nat)(v:Value),k<=pre.length/\PM w W T k n (λp=>∃y∈pre,y.1=p) (pre.map Subtype.val) v wt/\KeepD w3 W)
  (λc(pre:List (P8 n))W=>False)
  ?hI ?hIx
  ⟨0,_,by simp,HM3.out.congr (λp=>by simp),KeepD.refl _⟩ ?assign ?body ?done ?stop
 case hI=>
  intro pre W W' hK h
  obtain⟨k,v,h1,h2,h3⟩:=h
  exact⟨k,v,h1,h2.kept hK (by have:=HW3.out;omega),keepD_kept h3 hK⟩
 case hIx=>exactλc pre W W' hK h=>h
 case assign=>
  intro l x W K hK
  gi_wp2
  exact hK
 case stop=>
  intro D' c pre W5 hD' hI5 hd
  exact hI5.elim
 case body=>
  intro l pre x Bx W hWs hBx hbx hI hpl
  obtain⟨k,v,hk,hM,hKD⟩:=hI
  obtain⟨m0,m1,m2,ml⟩:=hM.cells
  have b0:W.cell? ⟨Bx,0,none⟩=some (.int .i64 (x.1.a:Nat)):=hbx.cell 0
  have b1:W.cell? ⟨Bx,1,none⟩=some (.int .i64 (x.1.b:Nat)):=hbx.cell 1
  have b2:W.cell? ⟨Bx,2,none⟩=some (.int .i64 (x.1.c:Nat)):=hbx.cell 2
  have b3:W.cell? ⟨Bx,3,none⟩=some (.int .i64 x.1.s):=hbx.cell 3
  have bz:=hbx.lt
  have Hpv:=Lib.hid (λW'(hb:Below W.heap.size W W')=>Hprov.out W' x.1 (Below.later hM.bel hb) x.2)
  have HM:=Lib.hid hM
  have HKD:=Lib.hid hKD
  have HWs:=Lib.hid hWs
  have Hbx:=Lib.hid hbx
  have HBx:=Lib.hid hBx
  clear hM hKD hWs hbx hBx
  unfold boxedP
  gi_wp2_with fail
  refine dagIn 5 (lets_round l 7 _) (by kernel_rfl) (by kernel_rfl) (.is ?_::.is ?_::.is ?_::.is ?_::.is ?_::[]) rfl ?st2 ?ob2
  case st2=>simp[Spec.ok]
  case ob2=>
   intro env W' hG
   have hM':=HM.out.later hG
   obtain⟨m0,m1,m2,ml⟩:=hM'.cells
   have hbx':=Hbx.out.later hG
   have b0:W'.cell? ⟨Bx,0,none⟩=some (.int .i64 (x.1.a:Nat)):=hbx'.cell 0
   have b1:W'.cell? ⟨Bx,1,none⟩=some (.int .i64 (x.1.b:Nat)):=hbx'.cell 1
   have b2:W'.cell? ⟨Bx,2,none⟩=some (.int .i64 (x.1.c:Nat)):=hbx'.cell 2
   have b3:W'.cell? ⟨Bx,3,none⟩=some (.int .i64 x.1.s):=hbx'.cell 3
   have bz:=hbx'.lt
   clear hM' hbx'
   iterate 4 (refine obls_is ?_ ?_;unfold doesAt;go_simp;(try go_bits);(first|(refine⟨brefl _,?_⟩;rfl)|rfl);intro K hK;go_simp;refine hK _ ?_;clear hK K)
   refine obls_is ?_ ?_
   ·unfold doesAt
    go_simp
    refine(Hpv.out W' hG).mono ?_
    rintro e w1⟨rfl,hb1⟩
    (refine⟨?_,hb1⟩;rfl)
   intro K hK
   go_simp
   refine hK _ ?_
   clear hK K
   refine obls_last (λ_=>?_)
   clear m0 m1 m2 ml b0 b1 b2 b3 bz
   have hM2:=HM.out.later hG
   obtain⟨w',hrun,hM3,hgr,es,cl,hes⟩:=hM2.put hn8 (by omega) x.2
   have hbx':=(Hbx.out.later hG).grown hgr (λe=>by have:=HBx.out;have:=HW3.out;simp at e;omega)
   have HN:=Lib.hid (hM3.later (balloc (brefl w') (.cells (cellsP x.1) 120)))
   have HF1:=Lib.hid (show KeepsFrom w3.heap.size W w' from(KeepsFrom.later hG).trans (KeepsFrom.of_grownBy hgr (λj hj=>by have:=HW3.out;cases hj;omega)))
   have HD1:=Lib.hid (keepD_map (HKD.out.later hG) hes hgr)
   obtain⟨m0,m1,m2,ml⟩:=hM3.cells
   have b0:w'.cell? ⟨Bx,0,none⟩=some (.int .i64 (x.1.a:Nat)):=hbx'.cell 0
   have b1:w'.cell? ⟨Bx,1,none⟩=some (.int .i64 (x.1.b:Nat)):=hbx'.cell 1
   have b2:w'.cell? ⟨Bx,2,none⟩=some (.int .i64 (x.1.c:Nat)):=hbx'.cell 2
   have b3:w'.cell? ⟨Bx,3,none⟩=some (.int .i64 x.1.s):=hbx'.cell 3
   have bz:=hbx'.lt
   have hne:∀g,v.ownBlock=some g->w.heap.size+1+1+1+1≠g:=λg hg e=>by have:=own_base hM3.row g hg;omega
   have Hne:=Lib.hid hne
   have hml:(pre.map Subtype.val).length<=2000:=by simp;omega
   have Hsz:=Lib.hid (show w.heap.size+1+1+1+1<w'.heap.size from ml)
   obtain⟨i0,hi0,hz0,hz1,hz2⟩:=info_parts info_pr
   clear hM2 hM3 hgr hes hbx' hne hG
   unfold doesAt
   go_simp
   clear hrun
   gi_wp2_with (gi_at_builtin;refine wpListIn_append_own _ rfl _ _ 200 rfl (w.heap.size+1+1+1+1+1) 120 i0 (.agg #[.int .i64 0,.int .i64 0,.int .i64 0,.int .i64 0]) 4 32 und_prs hi0 hz0 hz1 hz2 rfl (by decide) v (pre.map Subtype.val).length _ rfl HN.out.row ⟨w'.heap.size,0,none⟩ 1 1 [.int .i64 (x.1.a:Nat),.int .i64 (x.1.b:Nat),.int .i64 (x.1.c:Nat),.int .i64 x.1.s] rfl rfl (World.news_of_block (cs:=cellsP x.1) (t:=120) (fr:=(0,0)) (heap_alloc_new w' _)) (by simp[Value.oneCell']) (by simp only[maxLen];omega) (by omega) (by have:=Hsz.out;simp;omega) ?_;intro v' W3 hown' hgr2 _;have hb4:=HN.out.b4.grown hgr2 (λe=>Hne.out _ e rfl);have e0:W3.cell? ⟨w.heap.size+1+1+1+1,0,none⟩=some v:=hb4.cell 0;have e1:=hb4.frozen 0;have e2:=hb4.lt;obtain⟨g',cap',rfl⟩:=own_succ hown')
   refine⟨((HF1.out.trans (KeepsFrom.later (balloc (brefl w') _))).trans (keepsFrom_row HN.out.row hgr2)).trans (KeepsFrom.set _ _ _),trivial,k+1,.slice (some ⟨g',0,none⟩) (pre.length+1) cap',by simp;omega,?_,keepD_set (keepD_row (HD1.out.later (balloc (brefl w') _)) HN.out.row hgr2) _ _⟩
   rw[List.map_append]
   have hfin:=HN.out.add (x:=x.1) hgr2 hown'
   rw[List.length_map]at hfin
   refine hfin.congr (λp=>?_)
   simp only[List.mem_append,List.mem_singleton]
   constructor
   ·rintro(⟨y,hy,e⟩|rfl)
    ·exact⟨y,.inl hy,e⟩
    ·exact⟨x,.inr rfl,rfl⟩
   ·rintro⟨y,hy|rfl,e⟩
    ·exact .inl ⟨y,hy,e⟩
    ·exact .inr e.symm
 case done=>
  intro D' W5 ys hD' hcov hI5 hd
  obtain⟨k5,v5,hk5,hM5,hKD5⟩:=hI5
  obtain⟨hcov,hyl⟩:=hcov
  have hin:∀p,PrOk n p↔p∈ys.map Subtype.val:=λp=>⟨λhp=>by
   obtain⟨y,hy,e⟩:=hcov p hp trivial
   exact List.mem_map.2 ⟨y,hy,e⟩,λhp=>by
   obtain⟨y,_,e⟩:=List.mem_map.1 hp
   exact e▸y.2⟩
  have hM6:PM w W5 T k5 n (PrOk n) (ys.map Subtype.val) v5 wt:=hM5.congr (λp=>⟨λ⟨y,_,e⟩=>e▸y.2,λh=>hcov p h trivial⟩)
  have hmk:Marks (w.heap.size+1+1+1+1) W5 (mark D'::[]):=(Marks.nil _ w3).cons hD' (by have:=HW3.out;omega) hd (λk c _ hk=>hKD5 k c hk)
  have hll:(ys.map Subtype.val).length<=2000:=by simpa using hyl
  obtain⟨x0,l,hl⟩:∃x0 l,ys.map Subtype.val=x0::l:=by
   have h0:(⟨0,0,0,0⟩:Pr)∈ys.map Subtype.val:=(hin _).1 ⟨by show 0<n;omega,.inl ⟨rfl,rfl,rfl⟩⟩
   cases h:ys.map Subtype.val with
   |nil=>rw[h]at h0;cases h0
   |cons x0 l=>exact⟨x0,l,rfl⟩
  rw[hl]at hin hM6 hll
  have hll:l.length<=2000:=by simp at hll;omega
  obtain⟨A',c',rfl,hsl⟩:=own_slG (k:=4) (enc:=encP) (λ_=>rfl) hM6.row rfl
  have Hin:=Lib.hid hin
  have HM6:=Lib.hid hM6
  have Hmk:=Lib.hid hmk
  clear hM5 hKD5 hd hmk hcov hD' hyl HM3 hM6 hl hin hsl hk5
  obtain⟨m0,m1,m2,ml⟩:=HM6.out.cells
  obtain⟨m,hm⟩:∃m,bestTo (λa b=>lessQ (lookP (PrOk n) wt a) (lookP (PrOk n) wt b)) x0 l=m:=⟨_,rfl⟩
  have hmok:PrOk n m:=by
   rw[<-hm]
   rcases bestTo_mem (λa b=>lessQ (lookP (PrOk n) wt a) (lookP (PrOk n) wt b)) x0 l with h|h
   ·rw[h];exact(Hin.out x0).2 (by simp)
   ·exact(Hin.out _).2 (List.mem_cons_of_mem _ h)
  have hmin:∀q,PrOk n q->leQ (wt m) (wt q):=by
   intro q hq
   have h:=best_least (λp=>lookP (PrOk n) wt p) l x0 (λp hp=>by rw[lookP_yes ((Hin.out p).2 hp)];exact(Hsm.out p ((Hin.out p).2 hp)).2) q ((Hin.out q).1 hq)
   have h2:leQ (lookP (PrOk n) wt m) (lookP (PrOk n) wt q):=by rw[<-hm];exact h
   rwa[lookP_yes hmok,lookP_yes hq]at h2
  have hcall:=λV(hV:PM w V T k5 n (PrOk n) (x0::l) (.slice A' (x0::l).length c') wt)=>best1_any A' c' x0 l (w.heap.size+1+1+1) (λa b=>lessQ (lookP (PrOk n) wt a) (lookP (PrOk n) wt b)) V (by
   obtain⟨A2,c2,e,hs⟩:=own_slG (k:=4) (enc:=encP) (λ_=>rfl) hV.row rfl
   cases e
   exact hs) hll (λW p q hb hp hq=>by
   obtain⟨D,h1,h2⟩:=(hV.later hb).own
   exact proof1_any p q (w.heap.size+1+1+1) (w.heap.size+1+1) k5 n D (PrOk n) wt W hn8 ((Hin.out p).2 hp) ((Hin.out q).2 hq) ⟨(hV.later hb).b3,h1,h2⟩ (λp hp=>(Hsm.out p hp).1))
  rw[hm]at hcall
  have Hcall:=Lib.hid hcall
  have Hmok:=Lib.hid hmok
  have Hmin:=Lib.hid hmin
  clear hcall hmok hmin hm
  go_wp2_with fail
  clear m0 m1 m2 ml
  refine dag 6 (by kernel_rfl) (by kernel_rfl) (.is ?_::.is ?_::.is ?_::.is ?_::.is ?_::.like (NewQ (w.heap.size+1+1+1+1))::[]) rfl ?sta ?oba
  case sta=>repeat (first|exact stab_nil|refine stab_is ?_|refine stab_like (NewQ.stab _) ?_)
  case oba=>
  intro env V hG
  have hV:=HM6.out.later hG
  have HV:=Lib.hid hV
  obtain⟨m0,m1,m2,ml⟩:=hV.cells
  obtain⟨D1,hD1,hI1⟩:=hV.own
  have r1:=look_run hD1 hI1 hn8 Hmok.out
  rw[lookP_yes Hmok.out]at r1
  clear hV hD1 hI1
  iterate 3 (refine obls_is ?_ ?_;unfold doesAt;go_simp;(try go_bits);(first|(refine⟨brefl _,?_⟩;rfl)|rfl);intro K hK;go_simp;refine hK _ ?_;clear hK K)
  refine obls_is ?_ ?_
  ·unfold doesAt
   go_simp
   refine(Hcall.out V HV.out).mono ?_
   rintro e w1⟨rfl,hb1⟩
   (refine⟨?_,hb1⟩;rfl)
  intro K hK
  go_simp
  refine hK _ ?_
  clear hK K
  (refine obls_is ?_ ?_;unfold doesAt;go_simp;(try go_bits);(first|(refine⟨brefl _,?_⟩;rfl)|rfl);intro K hK;go_simp;refine hK _ ?_;clear hK K)
  refine obls_like (λ_=>?_) ?_
  ·unfold doesAt
   go_simp
   exact⟨balloc (brefl _) _,_,rfl,ml,Blk.new _ _ _⟩
  intro K hK
  go_simp
  refine hK _ ?_
  clear hK K
  refine obls_last (λhok=>?_)
  obtain⟨gq,hg,hgl,hgb⟩:=hok 5 _ rfl
  change env 5=_ at hg
  rw[hg]
  have g0:=hgb.lt
  have g1:=hgb.frozen 0
  have g2:=hgb.frozen 1
  have g3:V.cell? ⟨gq,0,none⟩=some (.int .i64 0):=hgb.cell 0
  have g4:V.cell? ⟨gq,1,none⟩=some (.int .i64 0):=hgb.cell 1
  unfold doesAt
  go_simp
  have hrow:(Value.slice A' (x0::l).length c').ownBlock≠some gq:=hgb.notRow HV.out.row (by decide)
  have HM7:=Lib.hid ((HV.out.other hgl hrow 0 (.int .i64 (wt m).1)).other hgl hrow 1 (.int .i64 (wt m).2))
  have HQ7:=Lib.hid (show Blk ((V.setCell ⟨gq,0,none⟩ (.int .i64 (wt m).1)).setCell ⟨gq,1,none⟩ (.int .i64 (wt m).2)) gq 59 #[.int .i64 (wt m).1,.int .i64 (wt m).2]from(hgb.set 0 _).set 1 _)
  have Hm7:=Lib.hid ((Hmk.out.later hG).setCell ⟨gq,0,none⟩ (.int .i64 (wt m).1) |>.setCell ⟨gq,1,none⟩ (.int .i64 (wt m).2))
  have Hgl:=Lib.hid hgl
  have Hrow:=Lib.hid hrow
  obtain⟨W7,hW7⟩:∃W7,(V.setCell ⟨gq,0,none⟩ (.int .i64 (wt m).1)).setCell ⟨gq,1,none⟩ (.int .i64 (wt m).2)=W7:=⟨_,rfl⟩
  rw[hW7]at HM7 HQ7 Hm7 ⊢
  clear hW7 hG HV m0 m1 m2 ml r1 hok hg hgl hgb g0 g1 g2 g3 g4 hrow HM6 Hmk Hcall
  clear V
  obtain⟨m0,m1,m2,ml⟩:=HM7.out.cells
  obtain⟨D0,hown0,hD0⟩:=HM7.out.own
  have Hown0:=Lib.hid hown0
  have HD0:=Lib.hid hD0
  clear hown0 hD0
  go_wp2_with (at_range;refine wpList_range_own _ rfl _ 199 rfl 120 59 keyed_pr und_mpr _ (w.heap.size+1+1) k5 D0 rfl Hown0.out ?_;intro w0 hrg0 hg0 hs0)
  go_frame
  have hrl:(Value.slice A' (x0::l).length c').ownBlock≠some W7.heap.size:=λe=>by have:=own_lt HM7.out.row _ e;omega
  have hR0:PR w w0 n W7.heap.size gq (x0::l) (.slice A' (x0::l).length c') wt (wt m) D0 (Maps.has D0):=
   ⟨HM7.out.bel.trans ⟨hg0.os,hg0.tape,hg0.output,hg0.size,λi hi=>hg0.block i (by have:=HM7.out.bel.size;omega) (λe=>by cases e)⟩,HM7.out.b1.grown hg0 (λe=>by cases e),HM7.out.b3.grown hg0 (λe=>by cases e),HM7.out.b4.grown hg0 (λe=>by cases e),HQ7.out.grown hg0 (λe=>by cases e),own_grown HM7.out.row hg0 (λg _ e=>by cases e),HD0.out.congr (λq=>⟨λh=>⟨h,.inl (HD0.out.yes q h).1⟩,λh=>h.1⟩),λz h=>h,ml,Hgl.out,HQ7.out.lt,hrl⟩
  have hm0:Marks (w.heap.size+1+1+1+1) w0 (mark D'::[]):=Hm7.out.kept (λk c h=>(hg0.block k (Array.getElem?_eq_some_iff.1 h).1 (λe=>by cases e)).trans h)
  have HR0:=Lib.hid hR0
  have Hrg0:=Lib.hid hrg0
  have Hm0:=Lib.hid hm0
  generalize W7.heap.size=r at*
  clear hrg0 hg0 hs0 hR0 hm0 HM7 HQ7 Hm7 Hown0 HD0 m0 m1 m2 ml hrl Hrow Hgl HW3
  obtain⟨ds,hds0⟩:∃ds,([mark D']:List Deferred)=ds:=⟨_,rfl⟩
  rw[hds0]at Hm0
  have Hds:=Lib.hid hds0
  refine loop_n (λq a W=>a.defers=ds/\∃(D:DP)(left:Lit->Bool)(cnt:Nat),cnt<=q/\PR w W n r gq (x0::l) (.slice A' (x0::l).length c') wt (wt m) D left/\RangesM W (w.heap.size+1+1) r k5 D left cnt/\Marks (w.heap.size+1+1+1+1) W ds/\Fits (none::none::some (.pointer (some ⟨w.heap.size+1,0,none⟩))::some (.pointer (some ⟨w.heap.size+1+1+1,0,none⟩))::some (.pointer (some ⟨w.heap.size+1+1+1+1,0,none⟩))::none::some (.pointer (some ⟨gq,0,none⟩))::none::none::none::none::none::none::none::none::none::none::none::none::none::none::none::none::none::none::none::none::none::some (.pointer (some ⟨r,0,none⟩))::none::none::none::none::none::none::none::none::none::none::none::none::none::[]) a.tmps.toList) (Maps.size D0) ?_ ?_
  ·refine⟨hds0,D0,_,_,Nat.le_refl _,HR0.out,Hrg0.out,Hm0.out,?_⟩
   repeat (first|exact fits_nil|refine fits_none ?_|refine fits_some ?_)
  clear HR0 Hrg0 Hm0 hds0 Hds
  clear w0
  intro q a W hI K hK
  obtain⟨hds,D,left,cnt,hcm,hR,hrg,hm,hfit⟩:=hI
  obtain⟨f,hf⟩:=fits_act hfit
  rw[hds]at hf
  subst hf
  clear hfit hds
  simp only[fillP,Nat.reduceAdd]
  have HR:=Lib.hid hR
  have Hrg:=Lib.hid hrg
  have Hm:=Lib.hid hm
  clear hR hrg hm
  rcases Hrg.out.next keyed_pr 0 with⟨hc0,hl0,hrun⟩|⟨xk,xv,kl,y,w1,cnt1,hkey,hlk,hv,hat,hrun,hrg1,hlt1,hgr,hsz,hen⟩
  ·have hown:=Hrg.out.owns
   have hD:MapIs n D (λp=>PrOk n p/\wt p=wt m) wt:=HR.out.is.congr (λp=>by
    rw[hl0]
    simp)
   obtain⟨m0,m1,m3,m4,m5,ml⟩:=HR.out.cells
   have Hown:=Lib.hid hown
   have HD:=Lib.hid hD
   clear hc0 hl0 hown hD hK
   have hmS:(x0=m\/m∈l):=by have:=(Hin.out m).1 Hmok.out;simp at this;exact this.imp Eq.symm id
   have hleft:=best_left (λp=>PrOk n p/\wt p=wt m) wt (λp hp=>(Hsm.out p hp.1).2) l x0 (hmS.imp (λe=>by rw[e];exact⟨Hmok.out,rfl⟩) (λh=>⟨m,h,Hmok.out,rfl⟩))
   obtain⟨z,hz⟩:∃z,bestTo (λa b=>decide (0<(lookP (λp=>PrOk n p/\wt p=wt m) wt a).2)&&decide ((lookP (λp=>PrOk n p/\wt p=wt m) wt b).2=0)) x0 l=z:=⟨_,rfl⟩
   have hcall:=best2_any A' c' x0 l (w.heap.size+1+1+1) (λa b=>decide (0<(lookP (λp=>PrOk n p/\wt p=wt m) wt a).2)&&decide ((lookP (λp=>PrOk n p/\wt p=wt m) wt b).2=0)) W (by
    obtain⟨A2,c2,e,hs⟩:=own_slG (k:=4) (enc:=encP) (λ_=>rfl) HR.out.row rfl
    cases e
    exact hs) hll (λV p q hb hp hq=>proof2_any p q (w.heap.size+1+1+1) (w.heap.size+1+1) k5 n D (λp=>PrOk n p/\wt p=wt m) wt V hn8 ((Hin.out p).2 hp) ((Hin.out q).2 hq) ⟨(HR.out.later hb).b3,Hown.out.kept (grown_none hb) (by simp),HD.out⟩ (λp hp=>(Hsm.out p hp.1).1))
   rw[hz]at hcall hleft
   have Hcall:=Lib.hid hcall
   have Hleft:=Lib.hid hleft
   clear hcall hleft hz hmS
   go_wp2_with fail
   refine Hcall.out.mono ?_
   rintro e w1⟨rfl,hb1⟩
   have hR1:=HR.out.later hb1
   have HR1:=Lib.hid hR1
   have Hm1:=Lib.hid (Hm.out.later hb1)
   have v0:w1.cell? ⟨w.heap.size+1,0,none⟩=some (.int .i64 0):=hR1.b1.cell 0
   have v1:w1.cell? ⟨w.heap.size+1,1,none⟩=some (.int .i64 0):=hR1.b1.cell 1
   have v2:w1.cell? ⟨w.heap.size+1,2,none⟩=some (.int .i64 0):=hR1.b1.cell 2
   have v3:w1.cell? ⟨w.heap.size+1,3,none⟩=some (.int .i64 0):=hR1.b1.cell 3
   have v4:=hR1.b1.frozen 0
   have v5:=hR1.b1.frozen 1
   have v6:=hR1.b1.frozen 2
   have v7:=hR1.b1.frozen 3
   have hbz:Blk ((((w1.setCell ⟨w.heap.size+1,0,none⟩ (.int .i64 (z.a:Nat))).setCell ⟨w.heap.size+1,1,none⟩ (.int .i64 (z.b:Nat))).setCell ⟨w.heap.size+1,2,none⟩ (.int .i64 (z.c:Nat))).setCell ⟨w.heap.size+1,3,none⟩ (.int .i64 z.s)) (w.heap.size+1) 120 (cellsP z):=(((hR1.b1.set 0 _).set 1 _).set 2 _).set 3 _
   have hbel:=bset (bset (bset (bset hR1.bel (p:=⟨w.heap.size+1,0,none⟩) (by simp) (.int .i64 (z.a:Nat))) (p:=⟨w.heap.size+1,1,none⟩) (by simp) (.int .i64 (z.b:Nat))) (p:=⟨w.heap.size+1,2,none⟩) (by simp) (.int .i64 (z.c:Nat))) (p:=⟨w.heap.size+1,3,none⟩) (by simp) (.int .i64 z.s)
   have hmz:=(((Hm1.out.setCell ⟨w.heap.size+1,0,none⟩ (.int .i64 (z.a:Nat))).setCell ⟨w.heap.size+1,1,none⟩ (.int .i64 (z.b:Nat))).setCell ⟨w.heap.size+1,2,none⟩ (.int .i64 (z.c:Nat))).setCell ⟨w.heap.size+1,3,none⟩ (.int .i64 z.s)
   have Hbz:=Lib.hid hbz
   have Hbel:=Lib.hid hbel
   have Hmz:=Lib.hid hmz
   clear hR1 hbz hbel hmz m0 m1 m3 m4 m5 ml
   go_wp2
   refine postM_ret2 (B:=w.heap.size+1+1+1+1) (v:=pv z) Hmz.out (λW' hK=>?_) (λW' hK=>⟨z,rfl,?_,Hleft.out.1,λq hq=>by rw[Hleft.out.2];exact Hmin.out q hq⟩)
   ·have hk:=Hbz.out.kept hK
    have c0:W'.cell? ⟨w.heap.size+1,0,none⟩=some (.int .i64 (z.a:Nat)):=hk.cell 0
    have c1:W'.cell? ⟨w.heap.size+1,1,none⟩=some (.int .i64 (z.b:Nat)):=hk.cell 1
    have c2:W'.cell? ⟨w.heap.size+1,2,none⟩=some (.int .i64 (z.c:Nat)):=hk.cell 2
    have c3:W'.cell? ⟨w.heap.size+1,3,none⟩=some (.int .i64 z.s):=hk.cell 3
    simp[results,Tryz.results107,go_sem,c0,c1,c2,c3]
   ·exact Hbel.out.trans ⟨hK.os,hK.tape,hK.output,hK.size,λi hi=>hK.low i (by omega) (by have:=Hbel.out.size;omega)⟩
  ·obtain⟨p,rfl,hS⟩:=HR.out.is.only kl (HR.out.has kl hlk)
   obtain rfl:xk=pv p:=keyed_pr.inj hkey (keyP_of hn8 hS.1)
   obtain rfl:xv=qv (wt p):=by
    have h1:=(HR.out.is.yes p hS).2 (.lit (.int .i64 0))
    rw[hat]at h1
    unfold rdQ at hv
    simp only[Option.some.injEq]at hv
    rw[<-hv]at h1
    simpa using h1
   have hpok:=hS.1
   have hR1:=HR.out.grown hgr
   have hm1:=Hm.out.kept (W':=w1) (λk c h=>(hgr.block k (Array.getElem?_eq_some_iff.1 h).1 (λe=>by
    simp at e
    subst e
    obtain⟨_,_,_,_,_,_,_,_,_,hr,_⟩:=Hrg.out
    rw[hr]at h;cases h)).trans h)
   obtain⟨m0,m1,m3,m4,m5,ml⟩:=hR1.cells
   have ml3:w.heap.size+1+1+1<w1.heap.size:=by omega
   obtain⟨y1,hy1⟩:∃z,(wt p).1=z:=⟨_,rfl⟩
   obtain⟨y2,hy2⟩:∃z,(wt p).2=z:=⟨_,rfl⟩
   obtain⟨x1,hx1⟩:∃z,(wt m).1=z:=⟨_,rfl⟩
   obtain⟨x2,hx2⟩:∃z,(wt m).2=z:=⟨_,rfl⟩
   have heq:wt p=wt m↔y1=x1/\y2=x2:=by rw[Prod.ext_iff,hy1,hy2,hx1,hx2]
   have Heq:=Lib.hid heq
   rw[hx1]at m3
   rw[hx2]at m4
   dsimp only[qv]at hrun hen
   rw[hy1,hy2]at hrun hen
   have HG:=Lib.hid (balloc (balloc (brefl w1) (.cells (cellsP p) 120)) (.cells #[.int .i64 y1,.int .i64 y2] 59))
   have HR1:=Lib.hid (hR1.later HG.out)
   have Hm1:=Lib.hid (hm1.later HG.out)
   have Hrg1:=Lib.hid (show RangesM _ (w.heap.size+1+1) r k5 D (λz=>left z&&!z.sameKey (keyP p)) cnt1 from hrg1.kept (grown_none HG.out) (by simp) (by simp))
   clear hR1 hm1 hrg1 heq hkey hlk hv hat hgr hsz hS hy1 hy2 hx1 hx2 HR Hrg Hm HG
   by_cases h1:y1=x1
   ·subst h1
    by_cases h2:y2=x2
    ·subst h2
     have Hst:=Lib.hid (HR1.out.stay hn8 (p:=p) (Heq.out.2 ⟨rfl,rfl⟩) hpok)
     clear HR1 Heq
     go_wp2
     refine hK _ _ (q-1) (by omega) ⟨rfl,_,_,cnt1,by omega,Hst.out,Hrg1.out,Hm1.out,?_⟩
     repeat (first|exact fits_nil|refine fits_none ?_|refine fits_some ?_)
    ·have b2:(y2==x2)=false:=by simpa using h2
     have Hno:=Lib.hid (λe=>h2 (Heq.out.1 e).2)
     obtain⟨w',cnt',hrunD,hrg3,hle,hturn⟩:=Hrg1.out.drop keyed_pr und_mpr (keyP_of hn8 hpok) 0
     rw[Maps.strike_twice]at hrg3
     have HR3:=Lib.hid (HR1.out.gone hturn.grown hn8 (p:=p) Hno.out hpok)
     have Hm3:=Lib.hid (Hm1.out.kept (W':=w') (λk c h=>(hturn.grown.block k (Array.getElem?_eq_some_iff.1 h).1 (λe=>by
      simp at e
      subst e
      obtain⟨_,_,hb,_⟩:=Hrg1.out.owns
      rw[hb]at h;cases h)).trans h))
     have Hrg3:=Lib.hid hrg3
     have n0:=HR1.out.cells.1
     dsimp only[cellsP]at n0 hrunD
     have ml4:w.heap.size+1+1+1<w1.heap.size+1:=by omega
     have ml5:w1.heap.size<w1.heap.size+1:=by omega
     clear HR1 Heq hrg3 hturn Hno
     go_wp2
     refine hK _ _ (q-1) (by omega) ⟨rfl,_,_,cnt',by omega,HR3.out,Hrg3.out,Hm3.out,?_⟩
     repeat (first|exact fits_nil|refine fits_none ?_|refine fits_some ?_)
   ·have b1:(y1==x1)=false:=by simpa using h1
    have Hno:=Lib.hid (λe=>h1 (Heq.out.1 e).1)
    obtain⟨w',cnt',hrunD,hrg3,hle,hturn⟩:=Hrg1.out.drop keyed_pr und_mpr (keyP_of hn8 hpok) 0
    rw[Maps.strike_twice]at hrg3
    have HR3:=Lib.hid (HR1.out.gone hturn.grown hn8 (p:=p) Hno.out hpok)
    have Hm3:=Lib.hid (Hm1.out.kept (W':=w') (λk c h=>(hturn.grown.block k (Array.getElem?_eq_some_iff.1 h).1 (λe=>by
     simp at e
     subst e
     obtain⟨_,_,hb,_⟩:=Hrg1.out.owns
     rw[hb]at h;cases h)).trans h))
    have Hrg3:=Lib.hid hrg3
    have n0:=HR1.out.cells.1
    dsimp only[cellsP]at n0 hrunD
    have ml4:w.heap.size+1+1+1<w1.heap.size+1:=by omega
    have ml5:w1.heap.size<w1.heap.size+1:=by omega
    clear HR1 Heq hrg3 hturn Hno
    go_wp2
    refine hK _ _ (q-1) (by omega) ⟨rfl,_,_,cnt',by omega,HR3.out,Hrg3.out,Hm3.out,?_⟩
    repeat (first|exact fits_nil|refine fits_none ?_|refine fits_some ?_)
end Go.Proofs.YtednconodjeniaaGreat.P
