/- clip.CheckCuts, where the ribbon and the kinds are valid: what cuts are worth, or the error. -/
import Derived.Test.YtednconodjeniaaGreatCCount
import Derived.OwnWalkIn
import Derived.Scope
namespace Go.Proofs.YtednconodjeniaaGreat.C
open Go.RowKit Go.Shelf
attribute [local go_sem] Oper.semAt_some
def tieB(ks:List Kd)(Bh:Nat->Int)(i k:Nat):Bool:=(ks.getD k ⟨0,0,0⟩).p+Bh (i+(ks.getD k ⟨0,0,0⟩).w.toNat)==Bh i
def firstAt(L:Nat)(F:Nat->Int)(ks:List Kd)(Bh:Nat->Int):Nat->Nat->List Sh
 |0,_=>[]
 |n+1,i=>if i<L then
   match((List.range ks.length).filter (canI L F ks i)).find? (tieB ks Bh i)with
   |some k=>⟨i,k⟩::firstAt L F ks Bh n (i+(ks.getD k ⟨0,0,0⟩).w.toNat)
   |none=>firstAt L F ks Bh n (i+1)
  else []
theorem find_of_pre{K k x:Nat}{c t:Nat->Bool}{pre:List Nat}(hk:k<=K)(hp:(List.range k).filter c=pre++[x])(hn:∀y∈pre,t y=false)(hx:t x=true):((List.range K).filter c).find? t=some x:=by
 obtain⟨d,rfl⟩:=Nat.exists_eq_add_of_le hk
 rw[List.range_add,List.filter_append,hp,List.append_assoc,List.find?_append]
 rw[List.find?_eq_none.2 (by intro y hy;simp[hn y hy])]
 simp[hx]
theorem firstAt_len{L:Nat}{F:Nat->Int}{ks:List Kd}{Bh:Nat->Int}:∀n i,(firstAt L F ks Bh n i).length<=n
 |0,_=>by simp[firstAt]
 |n+1,i=>by
  unfold firstAt
  split
  ·split
   ·simp only[List.length_cons];exact Nat.succ_le_succ (firstAt_len n _)
   ·exact Nat.le_succ_of_le (firstAt_len n _)
  ·simp
theorem Blk.grown{W W':World}{b:Nat}{t:TypeId}{cs:Array Value}{row:Option Nat}(h:Blk W b t cs)(hg:W.grownBy W' row)(hne:row≠some b):Blk W' b t cs:=
 (hg.block b h.lt (λe=>hne e.symm)).trans h
theorem Blk.notRow{W:World}{b base n size:Nat}{t e:TypeId}{cs:Array Value}{v:Value}{xs:List Value}(h:Blk W b t cs)(hown:W.ownsRow base e size v n xs)(ht:t≠e):v.ownBlock≠some b:=by
 intro hb
 rcases hown.2 with⟨rfl,_⟩|⟨g,cap,cur,rfl,_,hg,_⟩
 ·cases hb
 ·simp only[Value.ownBlock,Option.some.injEq]at hb
  subst hb
  unfold Blk at h
  rw[hg]at h
  simp at h
  exact ht h.2.symm
theorem own_later{W W':World}{base size n:Nat}{e:TypeId}{v:Value}{xs:List Value}(h:W.ownsRow base e size v n xs)(hb:Below W.heap.size W W'):W'.ownsRow base e size v n xs:=by
 refine⟨h.1,?_⟩
 rcases h.2 with hn|⟨g,cap,cur,rfl,h1,hg,h2⟩
 ·exact .inl hn
 ·exact .inr ⟨g,cap,cur,rfl,h1,(hb.block g (Array.getElem?_eq_some_iff.1 hg).1).trans hg,h2⟩
theorem own_kept{W W':World}{B base size n:Nat}{e:TypeId}{v:Value}{xs:List Value}(h:W.ownsRow base e size v n xs)(hk:Kept B W W'):W'.ownsRow base e size v n xs:=by
 refine⟨h.1,?_⟩
 rcases h.2 with hn|⟨g,cap,cur,rfl,h1,hg,h2⟩
 ·exact .inl hn
 ·exact .inr ⟨g,cap,cur,rfl,h1,hk.cells g cur e (0,0) hg,h2⟩
theorem own_other{W:World}{base size n:Nat}{e:TypeId}{v:Value}{xs:List Value}(h:W.ownsRow base e size v n xs)(p:Addr)(hp:v.ownBlock≠some p.block)(u:Value):(W.setCell p u).ownsRow base e size v n xs:=by
 refine⟨h.1,?_⟩
 rcases h.2 with hn|⟨g,cap,cur,rfl,h1,hg,h2⟩
 ·exact .inl hn
 ·refine .inr ⟨g,cap,cur,rfl,h1,(Below.heap_setCell W p u g (λe=>hp (by simp[Value.ownBlock,e]))).trans hg,h2⟩
structure FT(w W:World)(T i:Nat)(v:Value)(xs:List Sh):Prop where
 bel:Below w.heap.size w W
 b0:Blk W w.heap.size 72 #[.pointer (some ⟨T,0,none⟩)]
 b1:Blk W (w.heap.size+1) 39 #[v]
 own:W.ownsRow w.heap.size 49 2 v xs.length (xs.flatMap encS)
 b2:Blk W (w.heap.size+1+1) 3 #[.int .i64 i]
section
variable{w W W':World}{T i:Nat}{v:Value}{xs:List Sh}
theorem FT.later(h:FT w W T i v xs)(hb:Below W.heap.size W W'):FT w W' T i v xs:=
 ⟨Below.later h.bel hb,h.b0.later hb,h.b1.later hb,own_later h.own hb,h.b2.later hb⟩
theorem FT.kept{B:Nat}(h:FT w W T i v xs)(hk:Kept B W W')(hB:w.heap.size<=B):FT w W' T i v xs:=
 ⟨h.bel.trans ⟨hk.os,hk.tape,hk.output,hk.size,λi hi=>hk.low i (by omega) (by have:=h.bel.size;omega)⟩,h.b0.kept hk,h.b1.kept hk,own_kept h.own hk,h.b2.kept hk⟩
theorem FT.set(h:FT w W T i v xs)(j:Nat):FT w (W.setCell ⟨w.heap.size+1+1,0,none⟩ (.int .i64 j)) T j v xs:=
 ⟨h.bel.setCell (by show w.heap.size<=w.heap.size+1+1;omega) _,h.b0.other (by show w.heap.size+1+1≠_;omega) _,h.b1.other (by show w.heap.size+1+1≠_;omega) _,own_other h.own _ (h.b2.notRow h.own (by decide)) _,h.b2.set 0 _⟩
theorem FT.cells(h:FT w W T i v xs):W.cell? ⟨w.heap.size,0,none⟩=some (.pointer (some ⟨T,0,none⟩))/\W.cell? ⟨w.heap.size+1,0,none⟩=some v/\
 W.cell? ⟨w.heap.size+1+1,0,none⟩=some (.int .i64 i)/\w.heap.size+1+1<W.heap.size:=
 ⟨h.b0.cell 0,h.b1.cell 0,h.b2.cell 0,h.b2.lt⟩
theorem FT.grown{v':Value}(h:FT w W T i v xs)(x:Sh)(hg:W.grownBy W' v.ownBlock)(ho:W'.ownsRow w.heap.size 49 2 v' (xs.length+1) (xs.flatMap encS++encS x)):
 FT w (W'.setCell ⟨w.heap.size+1,0,none⟩ v') T i v' (xs++[x]):=by
 have hrow:∀k,v.ownBlock=some k->w.heap.size<=k:=λk hk=>(h.own.lt k hk).1
 have b1:=h.b1.grown hg (h.b1.notRow h.own (by decide))
 refine⟨Below.setCell (h.bel.trans ⟨hg.os,hg.tape,hg.output,hg.size,λi hi=>hg.block i (by have:=h.bel.size;omega) (λe=>by have:=hrow i e.symm;omega)⟩) (by show w.heap.size<=w.heap.size+1;omega) _,
  (h.b0.grown hg (h.b0.notRow h.own (by decide))).other (by show w.heap.size+1≠_;omega) _,b1.set 0 _,?_,(h.b2.grown hg (h.b2.notRow h.own (by decide))).other (by show w.heap.size+1≠_;omega) _⟩
 have h5:=own_other ho ⟨w.heap.size+1,0,none⟩ (b1.notRow ho (by decide)) v'
 simpa[List.flatMap_append]using h5
theorem KpT.of_grown{B1 B2 T:Nat}{KA:Option Addr}{row:Option Nat}(hg:W.grownBy W' row)(h1:B1<W.heap.size)(h2:B2<W.heap.size)(hT:T<W.heap.size)(hK:∀b o,KA=some ⟨b,o,none⟩->b<W.heap.size/\row≠some b)(g1:row≠some B1)(g2:row≠some B2)(g3:row≠some T):KpT B1 B2 T KA W W':=by
 refine⟨hg.size,λb o hb=>World.cell?_of_block (a:=⟨b,o,none⟩) ?_,λo=>World.cell?_of_block (a:=⟨B1,o,none⟩) (hg.block B1 h1 (λe=>g1 e.symm)),λo=>World.cell?_of_block (a:=⟨B2,o,none⟩) (hg.block B2 h2 (λe=>g2 e.symm))⟩
 rcases hb with⟨rfl,_⟩|⟨_,o',h'⟩
 ·exact hg.block _ hT (λe=>g3 e.symm)
 ·exact hg.block _ (hK b o' h').1 (λe=>(hK b o' h').2 e.symm)
end
theorem info_sheet:(Tryz.prog.info? 49).map (λi=>(i.zero,i.size,i.bytes))=some (some (.agg #[.int .i64 0,.int .i64 0]),2,16):=by kernel_rfl
theorem und_sheets:Tryz.prog.underlying 39=some (.slice 49):=by kernel_rfl
theorem KeepD.own{W0 W W':World}{base size n:Nat}{e:TypeId}{v:Value}{xs:List Value}(h:KeepD W0 W)(ho:W.ownsRow base e size v n xs)(hg:W.grownBy W' v.ownBlock):KeepD W0 W':=by
 intro k c hk
 have h1:=h k c hk
 refine(hg.block k (Array.getElem?_eq_some_iff.1 h1).1 (λhb=>?_)).trans h1
 rcases ho.2 with⟨rfl,_⟩|⟨g,cap,cur,rfl,_,hgg,_⟩
 ·cases hb
 ·simp only[Value.ownBlock,Option.some.injEq]at hb
  subst hb
  rw[hgg]at h1
  cases h1
theorem own_succ{W:World}{base:Nat}{e:TypeId}{size:Nat}{v:Value}{k:Nat}{xs:List Value}(h:W.ownsRow base e size v (k+1) xs):∃g cap,v=.slice (some ⟨g,0,none⟩) (k+1) cap:=by
 rcases h.2 with⟨_,h0⟩|⟨g,cap,_,rfl,_⟩
 ·omega
 ·exact⟨g,cap,rfl⟩
theorem two_new(w:World)(x y:Value)(t:TypeId):∀j u,[x,y][j]? =some u->(w.alloc (.cells #[x,y] t)).cell? ((⟨w.heap.size,0,none⟩:Addr).add j)=some u:=by
 intro j u hu
 have hadd:(⟨w.heap.size,0,none⟩:Addr).add j=⟨w.heap.size,j,none⟩:=by unfold Addr.add;split<;>simp_all
 rw[hadd,(Blk.new w t #[x,y]).cell]
 simpa using hu
def LoopF(w:World)(T L:Nat)(ks:List Kd)(F Bh:Nat->Int)(n:Nat)(a:Act)(W:World):Prop:=
 ∃i v xs,L<=i+n/\i<=L/\xs++firstAt L F ks Bh n i=firstAt L F ks Bh L 0/\Fits (none::some (.pointer (some ⟨w.heap.size,0,none⟩))::none::some (.pointer (some ⟨w.heap.size+1,0,none⟩))::some (.pointer (some ⟨w.heap.size+1+1,0,none⟩))::none::none::none::none::none::none::none::none::none::none::none::none::none::none::none::none::none::none::none::none::none::none::none::none::none::none::none::none::none::none::none::none::none::none::none::none::none::none::none::none::none::none::none::none::none::none::none::[]) a.tmps.toList/\Marks w.heap.size W a.defers/\FT w W T i v xs
set_option maxRecDepth 100000 in
set_option maxHeartbeats 2000000 in
theorem first_any(T L:Nat)(FA:Option Addr)(fn fc:Nat)(KA:Option Addr)(kc:Nat)(fs:List Int)(ks:List Kd)(w:World)(hT:TabOk w T L FA fn fc KA kc fs ks):
 Calls Tryz.prog 28 #[.pointer (some ⟨T,0,none⟩)] w λe w'=>∃v,e=.returned v/\Below w.heap.size w w'/\w'.ownsRow w.heap.size 49 2 v (firstAt L (Fst fs L) ks (behindAt L (Fst fs L) ks L) L 0).length ((firstAt L (Fst fs L) ks (behindAt L (Fst fs L) ks L) L 0).flatMap encS):=by
 obtain⟨htab,hko,hL1,hL2,hne⟩:=hT
 have hB24:=behindAt_bd (L:=L) (F:=Fst fs L) hko L (Nat.le_refl _)
 obtain⟨Bh,hBh⟩:∃Bh,behindAt L (Fst fs L) ks L=Bh:=⟨_,rfl⟩
 rw[hBh]at hB24 ⊢
 have HBh:=Lib.hid hBh
 have HB24:=Lib.hid hB24
 have HT:=Lib.hid htab
 have Hk:=Lib.hid hko
 have Hne:=Lib.hid hne
 have hTl:=htab.core.lt
 have t0:=htab.core.len
 clear htab hko hne hBh hB24
 refine calls_of_marks Tryz.func28 rfl ?_
 simp only[Tryz.ntmps28,List.size_toArray,List.length_cons,List.length_nil,Nat.reduceAdd,Nat.reduceSub,Array.replicate_succ,Array.replicate_zero,List.push_toArray,List.append_toArray,List.nil_append,List.cons_append]
 go_wp2_with fail
 refine wp_scope_straight ?_
 go_wp2_with fail
 obtain⟨W0,hW0⟩:∃W0,((w.alloc (Obj.cells #[Value.pointer (some ⟨T,0,none⟩)] 72)).alloc (Obj.cells #[Value.slice none 0 0] 39)).alloc (Obj.cells #[Value.int .i64 0] 3)=W0:=⟨_,rfl⟩
 have hF0:FT w W0 T 0 (.slice none 0 0) []:=by
  rw[<-hW0]
  refine⟨balloc (balloc (balloc (brefl w) _) _) _,((Blk.new w _ _).alloc _).alloc _,?_,World.ownsRow_nil _ _ _ _,?_⟩
  ·have h5:=(Blk.new (w.alloc (Obj.cells #[Value.pointer (some ⟨T,0,none⟩)] 72)) 39 #[Value.slice none 0 0]).alloc (Obj.cells #[Value.int .i64 0] 3)
   rw[World.size_alloc]at h5
   exact h5
  ·have h5:=Blk.new ((w.alloc (Obj.cells #[Value.pointer (some ⟨T,0,none⟩)] 72)).alloc (Obj.cells #[Value.slice none 0 0] 39)) 3 #[Value.int .i64 0]
   rw[World.size_alloc,World.size_alloc]at h5
   exact h5
 rw[hW0]
 clear hW0
 refine wp_label ?_
 go_wp2_with fail
 refine loop_n (LoopF w T L ks (Fst fs L) Bh) L ?_ ?_
 ·refine⟨0,_,[],by omega,by omega,rfl,?_,Marks.nil _ _,hF0⟩
  repeat (first|exact fits_nil|refine fits_none ?_|refine fits_some ?_)
 clear hF0 t0
 intro n a W hI K hK
 obtain⟨i,v,xs,hin,hiL,hxs,hfit,hm,hN⟩:=hI
 obtain⟨f,hf⟩:=fits_act hfit
 generalize a.defers=ds at*
 subst hf
 clear hfit
 simp only[fillP,Nat.reduceAdd]
 obtain⟨c0,c1,c2,hsz⟩:=hN.cells
 have z0:w.heap.size<W.heap.size:=by omega
 have z1:w.heap.size+1<W.heap.size:=by omega
 have z2:T<W.heap.size:=by omega
 have htW:=HT.out.later hN.bel
 have t0:=htW.core.len
 have HM:=Lib.hid hm
 have HN:=Lib.hid hN
 have Hxs:=Lib.hid hxs
 clear hm hN htW hxs
 go_wp2_with fail
 refine dag 7 (by kernel_rfl) (by kernel_rfl) (.is ?_::.is ?_::.is ?_::.is ?_::.is ?_::.is ?_::.is ?_::[]) rfl ?st ?ob
 case st=>simp[Spec.ok]
 case ob=>
  intro env W' hG
  obtain⟨hc,hf⟩:=bcell hG
  repeat (refine obls_is ?_ ?_;unfold doesAt;go_simp;(try go_bits);refine⟨brefl _,?_⟩;rfl;intro K hK;go_simp;refine hK _ ?_;clear hK K)
  refine obls_nil (λ_=>?_)
  have hN':=HN.out.later hG
  have hM':=HM.out.later hG
  clear hc hf c0 c1 c2 hsz z0 z1 z2 t0 HN HM hG
  clear W
  obtain⟨c0,c1,c2,hsz⟩:=hN'.cells
  have z0:w.heap.size<W'.heap.size:=by omega
  have z1:w.heap.size+1<W'.heap.size:=by omega
  have z2:T<W'.heap.size:=by omega
  have HM:=Lib.hid hM'
  have HN:=Lib.hid hN'
  clear hM' hN'
  generalize W'=W2 at*
  by_cases hlt:i<L
  ·have hn0:0<n:=by omega
   go_wp2_with fail
   refine(sheets_any T i W2).mono ?_
   rintro e w3⟨rfl,hw3⟩
   have hb3:Below W2.heap.size W2 w3:=by rw[<-hw3];exact balloc (balloc (brefl _) _) _
   have d1:w3.cell? ⟨W2.heap.size,0,none⟩=some (.pointer (some ⟨T,0,none⟩)):=by rw[<-hw3];exact((Blk.new W2 _ _).alloc _).cell 0
   have d2:w3.cell? ⟨W2.heap.size+1,0,none⟩=some (.int .i64 i):=by rw[<-hw3];have h5:=(Blk.new (W2.alloc (.cells #[.pointer (some ⟨T,0,none⟩)] 72)) 3 #[.int .i64 i]).cell 0;rw[World.size_alloc]at h5;exact h5
   have d3:w3.heap.size=W2.heap.size+1+1:=by rw[<-hw3];simp
   have D3:=Lib.hid d3
   have Hb3:=Lib.hid hb3
   have D1:=Lib.hid d1
   have D2:=Lib.hid d2
   have HN2:=HN
   clear hw3 hb3 d1 d2 d3
   go_wp2_with fail
   have hN3:=HN.out.later Hb3.out
   refine range_sheets (B1:=W2.heap.size) (B2:=W2.heap.size+1) (T:=T) (L:=L) (F:=Fst fs L) (fr:=i) (d:=5) (w:=w3) rfl Hk.out hL2 (Fst_bd fs hL2) (by omega) Hne.out (by rw[D3.out];omega) (by rw[D3.out];omega) D1.out D2.out (HT.out.later hN3.bel).core
    (λ(pre:List (Ki L (Fst fs L) ks i))W=>FT w W T i v xs/\KeepD w3 W/\∀y∈pre,tieB ks Bh i y.1=false)
    (λc(pre:List (Ki L (Fst fs L) ks i))W=>∃(pre':List (Ki L (Fst fs L) ks i))(x:Ki L (Fst fs L) ks i)(v':Value),c=.exit 1/\pre=pre'++[x]/\(∀y∈pre',tieB ks Bh i y.1=false)/\tieB ks Bh i x.1=true/\FT w W T (i+(ks.getD x.1 ⟨0,0,0⟩).w.toNat) v' (xs++[⟨i,x.1⟩])/\KeepD w3 W)
    ?hI ?hIx
    ⟨hN3,KeepD.refl _,by simp⟩ ?assign ?body ?done ?stop
   case hI=>exactλpre W W' hK h=>⟨h.1.kept hK (by rw[D3.out];omega),h.2.1.kept hK,h.2.2⟩
   case hIx=>
    intro c pre W W' hK h
    obtain⟨pre',x,v',h1,h2,h3,h4,h5,h6⟩:=h
    exact⟨pre',x,v',h1,h2,h3,h4,h5.kept hK (by rw[D3.out];omega),h6.kept hK⟩
   case assign=>
    intro l x W K hK
    gi_wp2
    exact hK
   case body=>
    intro l pre x Bx W hWs hBx hbx hI hpl
    obtain⟨hN,hKD,hpre⟩:=hI
    obtain⟨k,hkc⟩:=x
    obtain⟨y,hy,hcb⟩:∃y,ks[k]? =some y/\canB L (Fst fs L) y i=true:=by
     unfold canI at hkc
     cases hy:ks[k]? with
     |none=>rw[hy]at hkc;cases hkc
     |some y=>rw[hy]at hkc;exact⟨y,rfl,hkc⟩
    have hybd:=Hk.out.bd hy
    obtain⟨wd,hwd⟩:∃wd:Nat,y.w=wd:=⟨y.w.toNat,by omega⟩
    have hle:=(canB_iff.1 hcb).1
    have hgd:ks.getD k ⟨0,0,0⟩=y:=by simp[List.getD,hy]
    obtain⟨kb,ko,y',hKA,hkb,hy',e0,e1,_⟩:=(HT.out.later hN.bel).core.kds.ltK (List.getElem?_eq_some_iff.1 hy).1
    rw[hy]at hy'
    cases hy'
    have htW:=HT.out.later hN.bel
    have hendW:∀W',TabC W' W'.heap.size T L FA fn fc KA kc ks (Fst fs L)->Calls Tryz.prog 38 #[.pointer (some ⟨T,0,none⟩),.agg #[.int .i64 i,.int .i64 k]] W' λe w'=>e=.returned (.int .i64 (i+wd))/\Below W'.heap.size W' w':=by
     intro W' hC
     have h5:=end_tab hC Hk.out hy (i:Int) (by omega) (by omega)
     rw[hwd]at h5
     exact h5
    have HendW:=Lib.hid hendW
    rw[hwd]at e0
    obtain⟨c0,c1,c2,hsz⟩:=hN.cells
    have b0:=hbx.cell 0
    have b1:=hbx.cell 1
    have zb:=hbx.lt
    have t1:=htW.core.knd
    have t2:=htW.be i (by omega)
    have t3:=htW.be (i+wd) (by omega)
    have hkl:k<ks.length:=(List.getElem?_eq_some_iff.1 hy).1
    have hbd1:=HB24.out i
    have hbd2:=HB24.out (i+wd)
    have HtW:=Lib.hid htW
    have Hkb:=Lib.hid (show∀b o,KA=some ⟨b,o,none⟩->b<w.heap.size fromλb o h=>by obtain⟨b',o',hA,hB,_⟩:=HT.out.core.kds.at_ (by omega);rw[h]at hA;cases hA;exact hB)
    have Hek:=Lib.hid hKA
    subst hKA
    have z0:w.heap.size<W.heap.size:=by omega
    have z1:w.heap.size+1<W.heap.size:=by omega
    have z2:T<W.heap.size:=by omega
    have j0:(0:Int)<=(i:Int)+(wd:Int):=by omega
    have j1:(i:Int)+(wd:Int)<25:=by omega
    have j2:((i:Int)+(wd:Int)).toNat=i+wd:=by omega
    have j3:(i:Int)<25:=by omega
    rw[HBh.out]at t2 t3
    have hp:1<=y.p/\y.p<=1000:=hybd.2.1
    obtain⟨hp1,hp2⟩:=hp
    obtain⟨hbd1,hbd1'⟩:=hbd1
    obtain⟨hbd2,hbd2'⟩:=hbd2
    have hbd3:Bh (i+wd)<=24000:=by omega
    have htB:tieB ks Bh i k=(y.p+Bh (i+wd)==Bh i):=by unfold tieB;rw[hgd,hwd];rfl
    cases htie:(y.p+Bh (i+wd)==Bh i)with
    |false=>
     rw[htie]at htB
     have HtB:=Lib.hid htB
     have HN:=Lib.hid hN
     have HKD:=Lib.hid hKD
     have HW3:=Lib.hid hWs
     have Hpre:=Lib.hid hpre
     clear hN hKD hWs hendW hwd hy hcb hybd htW hbx htB hgd hpre hbd1' hbd2' Hek
     unfold boxedAct
     gi_wp2_with fail
     refine dagIn 25 (lets_round l 7 _) (by kernel_rfl) (by kernel_rfl) (.is ?_::.is ?_::.is ?_::.is ?_::.is ?_::.is ?_::.is ?_::.is ?_::.is ?_::.is ?_::.is ?_::.is ?_::.is ?_::.is ?_::.is ?_::.is ?_::.is ?_::.is ?_::.is ?_::.is ?_::.is ?_::.is ?_::.is ?_::.is ?_::.is ?_::[]) rfl ?st2 ?ob2
     case st2=>simp[Spec.ok]
     case ob2=>
      intro env W' hG
      obtain⟨hc,hf⟩:=bcell hG
      iterate 12 (refine obls_is ?_ ?_;unfold doesAt;go_simp;(try go_bits);refine⟨brefl _,?_⟩;rfl;intro K hK;go_simp;refine hK _ ?_;clear hK K)
      refine obls_is ?_ ?_
      ·unfold doesAt
       go_simp
       refine(HendW.out W' (HtW.out.core.later hG)).mono ?_
       rintro e w1⟨rfl,hb1⟩
       refine⟨?_,hb1⟩
       rfl
      intro K hK
      go_simp
      refine hK _ ?_
      clear hK K
      iterate 12 (refine obls_is ?_ ?_;unfold doesAt;go_simp;(try go_bits);refine⟨brefl _,?_⟩;rfl;intro K hK;go_simp;refine hK _ ?_;clear hK K)
      refine obls_nil (λ_=>?_)
      clear hc hf
      gi_wp2
      refine⟨KeepsFrom.later hG,KpT.of_below hG (by have:=HW3.out;rw[D3.out]at this;omega) (by have:=HW3.out;rw[D3.out]at this;omega) (by omega) (λb o h=>by have:=Hkb.out b o h;omega),HN.out.later hG,HKD.out.later hG,λz hz=>?_⟩
      rcases List.mem_append.1 hz with hz|hz
      ·exact Hpre.out z hz
      ·rw[List.mem_singleton.1 hz];exact HtB.out
    |true=>
     rw[htie]at htB
     have HtB:=Lib.hid htB
     have HN:=Lib.hid hN
     have HKD:=Lib.hid hKD
     have HW3:=Lib.hid hWs
     have Hpre:=Lib.hid hpre
     have Hbx:=Lib.hid hbx
     have Hgd:=Lib.hid hgd
     have Hwd:=Lib.hid hwd
     clear hN hKD hWs hendW hwd hy hcb hybd htW hbx htB hgd hpre hbd1' hbd2'
     unfold boxedAct
     gi_wp2_with fail
     refine dagIn 25 (lets_round l 7 _) (by kernel_rfl) (by kernel_rfl) (.is ?_::.is ?_::.is ?_::.is ?_::.is ?_::.is ?_::.is ?_::.is ?_::.is ?_::.is ?_::.is ?_::.is ?_::.is ?_::.is ?_::.is ?_::.is ?_::.is ?_::.is ?_::.is ?_::.is ?_::.is ?_::.is ?_::.is ?_::.is ?_::.is ?_::[]) rfl ?st3 ?ob3
     case st3=>simp[Spec.ok]
     case ob3=>
      intro env W' hG
      obtain⟨hc,hf⟩:=bcell hG
      iterate 12 (refine obls_is ?_ ?_;unfold doesAt;go_simp;(try go_bits);refine⟨brefl _,?_⟩;rfl;intro K hK;go_simp;refine hK _ ?_;clear hK K)
      refine obls_is ?_ ?_
      ·unfold doesAt
       go_simp
       refine(HendW.out W' (HtW.out.core.later hG)).mono ?_
       rintro e w1⟨rfl,hb1⟩
       refine⟨?_,hb1⟩
       rfl
      intro K hK
      go_simp
      refine hK _ ?_
      clear hK K
      iterate 12 (refine obls_is ?_ ?_;unfold doesAt;go_simp;(try go_bits);refine⟨brefl _,?_⟩;rfl;intro K hK;go_simp;refine hK _ ?_;clear hK K)
      refine obls_nil (λ_=>?_)
      have b0':=(hc Bx 0 zb).trans b0
      have b1':=(hc Bx 1 zb).trans b1
      have c0':=(hc w.heap.size 0 z0).trans c0
      have c1':=(hc (w.heap.size+1) 0 z1).trans c1
      have zW:=hG.size
      have zb':Bx<W'.heap.size:=by omega
      have z0':w.heap.size<W'.heap.size:=by omega
      have z1':w.heap.size+1<W'.heap.size:=by omega
      have z3':w.heap.size+1+1<W'.heap.size:=by omega
      have HG:=Lib.hid hG
      clear hc hf hG b0 b1 c0 c1 c2 e0 e1 t1 t2 t3 zW
      have hGO:Gr W (W'.alloc (.cells #[.int .i64 i,.int .i64 k] 49)):=balloc HG.out _
      have hN':=HN.out.later hGO
      have hbx':=(Hbx.out.later hGO)
      have hvB:∀g,v.ownBlock=some g->w.heap.size<=g/\g<W2.heap.size:=λg hg=>HN2.out.own.lt g hg
      have hfin:∀W3:World,(W'.alloc (.cells #[.int .i64 i,.int .i64 k] 49)).grownBy W3 v.ownBlock->W3.cell? ⟨w.heap.size,0,none⟩=some (.pointer (some ⟨T,0,none⟩))/\W3.cell? ⟨w.heap.size+1,0,none⟩=some v/\W3.frozen? ⟨w.heap.size+1,0,none⟩=false/\
       W3.cell? ⟨Bx,0,none⟩=some (.int .i64 i)/\W3.cell? ⟨Bx,1,none⟩=some (.int .i64 k)/\Bx<W3.heap.size/\w.heap.size+1+1<W3.heap.size:=by
       intro W3 hg
       have q0:=hN'.b0.grown hg (hN'.b0.notRow hN'.own (by decide))
       have q1:=hN'.b1.grown hg (hN'.b1.notRow hN'.own (by decide))
       have q2:=hN'.b2.grown hg (hN'.b2.notRow hN'.own (by decide))
       have q3:=hbx'.grown hg (λe=>by have:=(hvB Bx e).2;rw[D3.out]at hBx;omega)
       exact⟨q0.cell 0,q1.cell 0,q1.frozen 0,q3.cell 0,q3.cell 1,q3.lt,q2.lt⟩
      have Hfin:=Lib.hid hfin
      have HN':=Lib.hid hN'
      have HvB:=Lib.hid hvB
      have HGO:=Lib.hid hGO
      obtain⟨i0,hi,hz0,hz1,hz2⟩:=info_parts info_sheet
      have hxl:xs.length<=24:=by
       have h1:=congrArg List.length Hxs.out
       have h2:=firstAt_len (L:=L) (F:=Fst fs L) (ks:=ks) (Bh:=Bh) L 0
       simp at h1
       omega
      have HW3:=Lib.hid hBx
      have hBx2:w.heap.size+1<Bx:=by have:=HN2.out.b2.lt;rw[D3.out]at hBx;omega
      clear hfin hN' hvB hGO hbx' hBx
      gi_wp2_with (gi_at_builtin;refine wpListIn_append_own _ rfl _ _ 39 rfl w.heap.size 49 i0 (.agg #[.int .i64 0,.int .i64 0]) 2 16 und_sheets hi hz0 hz1 hz2 rfl (by decide) v xs.length _ rfl HN'.out.own ⟨W'.heap.size,0,none⟩ 1 1 [.int .i64 i,.int .i64 k] rfl rfl (two_new _ _ _ _) (by simp[Value.oneCell']) (by simp only[maxLen];omega) (by omega) (by have:=HN'.out.bel.size;omega) ?_;intro v' W3 hown' hgr _;obtain⟨g',cap',rfl⟩:=own_succ hown';have e7:Bx≠w.heap.size+1:=(by omega);have e8:w.heap.size+1≠Bx:=(by omega);obtain⟨e0,e1,e2,e3,e4,e5,e6⟩:=Hfin.out W3 hgr)
      have hN4:FT w (W3.setCell ⟨w.heap.size+1,0,none⟩ (.slice (some ⟨g',0,none⟩) (xs.length+1) cap')) T i _ (xs++[⟨i,k⟩]):=HN'.out.grown ⟨i,k⟩ hgr hown'
      have hK4:KeepD w3 (W3.setCell ⟨w.heap.size+1,0,none⟩ (.slice (some ⟨g',0,none⟩) (xs.length+1) cap')):=((HKD.out.later HGO.out).own HN'.out.own hgr).set _ _
      have hF4:KeepsFrom w3.heap.size W (W3.setCell ⟨w.heap.size+1,0,none⟩ (.slice (some ⟨g',0,none⟩) (xs.length+1) cap')):=((KeepsFrom.later HGO.out).trans (KeepsFrom.of_grownBy hgr (λj hj=>by have:=(HvB.out j hj).2;rw[D3.out];omega))).trans (KeepsFrom.set _ _ _)
      generalize W3.setCell ⟨w.heap.size+1,0,none⟩ (.slice (some ⟨g',0,none⟩) (xs.length+1) cap')=W4 at*
      clear e0 e1 e2 e3 e4 e5 e6 hgr hown'
      refine⟨trivial,CallsIn.mono (CallsIn.inRound l (callsIn_wide.2 (HendW.out W4 (HT.out.later hN4.bel).core))) ?_⟩
      rintro e w1⟨rfl,hb1⟩
      have hN5:=hN4.later hb1
      have hf5:w1.frozen? ⟨w.heap.size+1+1,0,none⟩=false:=hN5.b2.frozen 0
      obtain⟨c0,c1,c2,hsz⟩:=hN5.cells
      have hN6:=hN5.set (i+wd)
      have hK6:=(hK4.later hb1).set ⟨w.heap.size+1+1,0,none⟩ (.int .i64 (i+wd:Nat))
      have hF6:=(hF4.trans (KeepsFrom.later hb1)).trans (KeepsFrom.set w1 ⟨w.heap.size+1+1,0,none⟩ (.int .i64 (i+wd:Nat)))
      rw[show((i+wd:Nat):Int)=(i:Int)+(wd:Int)from by omega]at hN6 hK6 hF6
      have HN6:=Lib.hid hN6
      have HK6:=Lib.hid hK6
      have HF6:=Lib.hid hF6
      clear hN4 hK4 hF4 hN5 hN6 hK6 hF6 hb1
      gi_wp2
      refine⟨HF6.out,pre,⟨k,hkc⟩,.slice (some ⟨g',0,none⟩) (xs.length+1) cap',rfl,rfl,Hpre.out,HtB.out,?_,HK6.out⟩
      have hw2:(ks.getD k ⟨0,0,0⟩).w.toNat=wd:=by rw[Hgd.out,Hwd.out];rfl
      rw[hw2]
      exact HN6.out
   case done=>
    intro D W5 hD hI5 hd
    obtain⟨hN5,hKD5,hno⟩:=hI5
    have hval:(kiTo L (Fst fs L) ks i ks.length).map Subtype.val=(List.range ks.length).filter (canI L (Fst fs L) ks i):=kiTo_val _ _ _ _ _
    have hfind:((List.range ks.length).filter (canI L (Fst fs L) ks i)).find? (tieB ks Bh i)=none:=by
     rw[<-hval,List.find?_eq_none]
     intro k hk
     obtain⟨z,hz,rfl⟩:=List.mem_map.1 hk
     rw[hno z hz];simp
    have hmk:Marks w.heap.size W5 (mark D::ds):=(HM.out.later Hb3.out).cons hD (by rw[D3.out];omega) hd (λk c _ hk=>hKD5 k c hk)
    have hx2:xs++firstAt L (Fst fs L) ks Bh (n-1) (i+1)=firstAt L (Fst fs L) ks Bh L 0:=by
     rw[<-Hxs.out]
     conv=>rhs;rw[show n=(n-1)+1 from by omega]
     rw[firstAt,if_pos hlt,hfind]
    obtain⟨c0,c1,c2,hsz⟩:=hN5.cells
    have hfz:W5.frozen? ⟨w.heap.size+1+1,0,none⟩=false:=hN5.b2.frozen _
    have hN6:FT w (W5.setCell ⟨w.heap.size+1+1,0,none⟩ (.int .i64 (i+1:Nat))) T (i+1) v xs:=hN5.set (i+1)
    have HN6:=Lib.hid hN6
    have Hmk:=Lib.hid (hmk.setCell ⟨w.heap.size+1+1,0,none⟩ (.int .i64 (i+1:Nat)))
    have Hx2:=Lib.hid hx2
    clear hN5 hKD5 hd hmk hval hfind hx2 hno hN6
    go_wp2
    refine hK _ _ (n-1) (by omega) ⟨i+1,v,xs,by omega,by omega,Hx2.out,?_,Hmk.out,HN6.out⟩
    repeat (first|exact fits_nil|refine fits_none ?_|refine fits_some ?_)
   case stop=>
    intro D c pre W5 hD hpre hI5 hd
    obtain⟨k0,hk0,hpk⟩:=hpre
    obtain⟨pre',x,v',rfl,hpx,hno,htx,hN5,hKD5⟩:=hI5
    have hval:(kiTo L (Fst fs L) ks i k0).map Subtype.val=(List.range k0).filter (canI L (Fst fs L) ks i):=kiTo_val _ _ _ _ _
    have hfind:((List.range ks.length).filter (canI L (Fst fs L) ks i)).find? (tieB ks Bh i)=some x.1:=by
     refine find_of_pre (pre:=pre'.map Subtype.val) hk0 ?_ ?_ htx
     ·rw[<-hval,<-hpk,hpx];simp
     ·intro y hy
      obtain⟨z,hz,rfl⟩:=List.mem_map.1 hy
      exact hno z hz
    have hmk:Marks w.heap.size W5 (mark D::ds):=(HM.out.later Hb3.out).cons hD (by rw[D3.out];omega) hd (λk c _ hk=>hKD5 k c hk)
    have hx2:(xs++[⟨i,x.1⟩])++firstAt L (Fst fs L) ks Bh (n-1) (i+(ks.getD x.1 ⟨0,0,0⟩).w.toNat)=firstAt L (Fst fs L) ks Bh L 0:=by
     rw[<-Hxs.out]
     conv=>rhs;rw[show n=(n-1)+1 from by omega]
     rw[firstAt,if_pos hlt,hfind]
     simp
    have hwb:1<=(ks.getD x.1 ⟨0,0,0⟩).w.toNat/\i+(ks.getD x.1 ⟨0,0,0⟩).w.toNat<=L:=by
     have hxc:=x.2
     unfold canI at hxc
     cases hy:ks[x.1]? with
     |none=>rw[hy]at hxc;cases hxc
     |some y=>
      rw[hy]at hxc
      have h1:=Hk.out.bd hy
      have h2:=(canB_iff.1 hxc).1
      simp only[List.getD,hy,Option.getD_some]
      omega
    have HN5:=Lib.hid hN5
    have Hmk:=Lib.hid hmk
    have Hx2:=Lib.hid hx2
    generalize (ks.getD x.1 ⟨0,0,0⟩).w.toNat=wx at*
    clear hN5 hKD5 hd hmk hval hfind hx2 hno hpx hpk
    go_wp2
    refine hK _ _ (n-1) (by omega) ⟨i+wx,v',_,by omega,by omega,Hx2.out,?_,Hmk.out,HN5.out⟩
    repeat (first|exact fits_nil|refine fits_none ?_|refine fits_some ?_)
  ·obtain rfl:L=i:=by omega
   have hx2:xs=firstAt L (Fst fs L) ks Bh L 0:=by
    rw[<-Hxs.out]
    cases n with
    |zero=>simp[firstAt]
    |succ n=>simp[firstAt]
   have Hx2:=Lib.hid hx2
   clear hx2 hK
   go_wp2_with fail
   refine postM_ret (B:=w.heap.size) (v:=v) HM.out (λW'=>results_tmp (t:=2) rfl _ _ _) (λW' hK=>?_)
   rw[<-Hx2.out]
   exact⟨v,rfl,(HN.out.kept hK (Nat.le_refl _)).bel,(HN.out.kept hK (Nat.le_refl _)).own⟩
end Go.Proofs.YtednconodjeniaaGreat.C
namespace Go.Proofs.YtednconodjeniaaGreat.C
open Go.RowKit Go.Shelf
set_option maxHeartbeats 400000 in
theorem Cuts_bad(L:Int)(FA:Option Addr)(fn fc:Nat)(fs:List Int)(KA:Option Addr)(kc:Nat)(ks:List Kd)(w:World)(hfs:Sl 1 encI w w.heap.size FA fn fc fs)(hks:Sl 3 encK w w.heap.size KA ks.length kc ks)(hne:rkE L fs ks≠0):
 Calls Tryz.prog 9 #[.agg #[.int .i64 L,.slice FA fn fc],.slice KA ks.length kc] w λe w'=>e=.returned (.tuple #[.slice none 0 0,.int .i64 (rkE L fs ks)])/\Below w.heap.size w w':=by
 have ho:=Lib.hid (λW hb=>open_bad L FA fn fc fs KA kc ks W (hfs.later (w':=W) hb) (hks.later hb) hne)
 generalize rkE L fs ks=re at*
 have hn2:(re==0)=false:=by simpa using hne
 have hn3:(re != 0)=true:=by simpa using hne
 clear hne hfs hks
 go_enter Tryz.func9,Tryz.ntmps9
 go_wp2_with fail
 refine(ho.out _ (balloc (brefl w) _)).mono ?_
 rintro e w1⟨rfl,hb1⟩
 have HB:=Lib.hid (Below.later (balloc (brefl w) _) hb1)
 clear hb1
 go_wp2
 go_ret2
 exact⟨rfl,HB.out⟩
set_option maxHeartbeats 400000 in
theorem Count_bad(L:Int)(FA:Option Addr)(fn fc:Nat)(fs:List Int)(KA:Option Addr)(kc:Nat)(ks:List Kd)(w:World)(hfs:Sl 1 encI w w.heap.size FA fn fc fs)(hks:Sl 3 encK w w.heap.size KA ks.length kc ks)(hne:rkE L fs ks≠0):
 Calls Tryz.prog 70 #[.agg #[.int .i64 L,.slice FA fn fc],.slice KA ks.length kc] w λe w'=>e=.returned (.tuple #[.int .i64 0,.int .i64 (rkE L fs ks)])/\Below w.heap.size w w':=by
 have ho:=Lib.hid (λW hb=>open_bad L FA fn fc fs KA kc ks W (hfs.later (w':=W) hb) (hks.later hb) hne)
 generalize rkE L fs ks=re at*
 have hn2:(re==0)=false:=by simpa using hne
 have hn3:(re != 0)=true:=by simpa using hne
 clear hne hfs hks
 go_enter Tryz.func70,Tryz.ntmps70
 go_wp2_with fail
 refine(ho.out _ (balloc (brefl w) _)).mono ?_
 rintro e w1⟨rfl,hb1⟩
 have HB:=Lib.hid (Below.later (balloc (brefl w) _) hb1)
 clear hb1
 go_wp2
 go_ret2
 exact⟨rfl,HB.out⟩
set_option maxHeartbeats 400000 in
theorem Prices_bad(L:Int)(FA:Option Addr)(fn fc:Nat)(fs:List Int)(KA:Option Addr)(kc:Nat)(ks:List Kd)(w:World)(hfs:Sl 1 encI w w.heap.size FA fn fc fs)(hks:Sl 3 encK w w.heap.size KA ks.length kc ks)(hne:rkE L fs ks≠0):
 Calls Tryz.prog 73 #[.agg #[.int .i64 L,.slice FA fn fc],.slice KA ks.length kc] w λe w'=>e=.returned (.tuple #[.slice none 0 0,.int .i64 (rkE L fs ks)])/\Below w.heap.size w w':=by
 have ho:=Lib.hid (λW hb=>open_bad L FA fn fc fs KA kc ks W (hfs.later (w':=W) hb) (hks.later hb) hne)
 generalize rkE L fs ks=re at*
 have hn2:(re==0)=false:=by simpa using hne
 have hn3:(re != 0)=true:=by simpa using hne
 clear hne hfs hks
 go_enter Tryz.func73,Tryz.ntmps73
 go_wp2_with fail
 refine(ho.out _ (balloc (brefl w) _)).mono ?_
 rintro e w1⟨rfl,hb1⟩
 have HB:=Lib.hid (Below.later (balloc (brefl w) _) hb1)
 clear hb1
 go_wp2
 go_ret2
 exact⟨rfl,HB.out⟩
set_option maxHeartbeats 400000 in
theorem Cost_bad(L:Int)(FA:Option Addr)(fn fc:Nat)(fs:List Int)(KA:Option Addr)(kc:Nat)(ks:List Kd)(fault:Int)(w:World)(hfs:Sl 1 encI w w.heap.size FA fn fc fs)(hks:Sl 3 encK w w.heap.size KA ks.length kc ks)(hne:rkE L fs ks≠0):
 Calls Tryz.prog 74 #[.agg #[.int .i64 L,.slice FA fn fc],.slice KA ks.length kc,.int .i64 fault] w λe w'=>e=.returned (.tuple #[.int .i64 0,.int .i64 (rkE L fs ks)])/\Below w.heap.size w w':=by
 have ho:=Lib.hid (λW hb=>open_bad L FA fn fc fs KA kc ks W (hfs.later (w':=W) hb) (hks.later hb) hne)
 generalize rkE L fs ks=re at*
 have hn2:(re==0)=false:=by simpa using hne
 have hn3:(re != 0)=true:=by simpa using hne
 clear hne hfs hks
 go_enter Tryz.func74,Tryz.ntmps74
 go_wp2_with fail
 refine(ho.out _ (balloc (brefl w) _)).mono ?_
 rintro e w1⟨rfl,hb1⟩
 have HB:=Lib.hid (Below.later (balloc (brefl w) _) hb1)
 clear hb1
 go_wp2
 go_ret2
 exact⟨rfl,HB.out⟩
set_option maxHeartbeats 400000 in
theorem CheckCuts_bad(L:Int)(FA:Option Addr)(fn fc:Nat)(fs:List Int)(KA:Option Addr)(kc:Nat)(ks:List Kd)(CA:Option Addr)(cn cc:Nat)(w:World)(hfs:Sl 1 encI w w.heap.size FA fn fc fs)(hks:Sl 3 encK w w.heap.size KA ks.length kc ks)(hne:rkE L fs ks≠0):
 Calls Tryz.prog 68 #[.agg #[.int .i64 L,.slice FA fn fc],.slice KA ks.length kc,.slice CA cn cc] w λe w'=>e=.returned (.tuple #[.int .i64 0,.int .i64 (rkE L fs ks)])/\Below w.heap.size w w':=by
 have ho:=Lib.hid (λW hb=>open_bad L FA fn fc fs KA kc ks W (hfs.later (w':=W) hb) (hks.later hb) hne)
 generalize rkE L fs ks=re at*
 have hn2:(re==0)=false:=by simpa using hne
 have hn3:(re != 0)=true:=by simpa using hne
 clear hne hfs hks
 go_enter Tryz.func68,Tryz.ntmps68
 go_wp2_with fail
 refine(ho.out _ (balloc (balloc (brefl w) _) _)).mono ?_
 rintro e w1⟨rfl,hb1⟩
 have HB:=Lib.hid (Below.later (balloc (balloc (brefl w) _) _) hb1)
 clear hb1
 go_wp2
 go_ret2
 exact⟨rfl,HB.out⟩
end Go.Proofs.YtednconodjeniaaGreat.C
namespace Go.Proofs.YtednconodjeniaaGreat.C
open Go.RowKit Go.Shelf
def oddB(L n:Int)(s:Sh):Bool:=!inR 0 L s.f||!inR 0 (n-1) s.k
def canS(L:Nat)(F:Nat->Int)(ks:List Kd)(s:Sh):Bool:=match ks[s.k.toNat]? with
 |some x=>canB L F x s.f.toNat
 |none=>false
def walkCuts(ks:List Kd):List Sh->Int->Int->Int×Int
 |[],_,worth=>(worth,0)
 |s::l,next,worth=>if s.f<next then(0,16)else walkCuts ks l (s.f+(ks.getD s.k.toNat ⟨0,0,0⟩).w) (worth+(ks.getD s.k.toNat ⟨0,0,0⟩).p)
def cutsP(L:Nat)(F:Nat->Int)(ks:List Kd)(cuts:List Sh):Int×Int:=
 if L<cuts.length then(0,6)else if cuts.any (oddB L ks.length)then(0,3)else if cuts.any (λs=>!canS L F ks s)then(0,18)else walkCuts ks cuts 0 0
set_option maxHeartbeats 1000000 in
theorem odd_any(b3 b4 n kc:Nat)(KA:Option Addr)(L:Int)(s:Sh)(w:World)(h3:w.cell? ⟨b3,0,none⟩=some (.int .i64 L))(h4:w.cell? ⟨b4,0,none⟩=some (.slice KA n kc))(l3:b3<w.heap.size)(l4:b4<w.heap.size)(hn:n<=1000):
 Calls Tryz.prog 126 #[.agg #[.int .i64 s.f,.int .i64 s.k],.pointer (some ⟨b3,0,none⟩),.pointer (some ⟨b4,0,none⟩)] w λe w'=>e=.returned (.bool (oddB L n s))/\Below w.heap.size w w':=by
 obtain⟨sf,sk⟩:=s
 have hw1:b3≠w.heap.size:=by omega
 have hw2:b4≠w.heap.size:=by omega
 cases h1:inR 0 L sf with
 |false=>
  have HE:=Lib.hid (show oddB L n ⟨sf,sk⟩=true by simp[oddB,h1])
  go_enter Tryz.func126,Tryz.ntmps126
  go_wp2_with fail
  refine(within_one 0 L sf (w.heap.size+1) _ (by simp) (by go_simp)).mono ?_
  rintro e w1⟨rfl,hb1⟩
  go_wp2_with fail
  go_ret
  exact⟨ret_bool HE.out.symm,Below.later (balloc (balloc (brefl _) _) _) hb1⟩
 |true=>
  have HE:=Lib.hid (show oddB L n ⟨sf,sk⟩=!inR 0 ((n:Int)-1) sk by simp[oddB,h1])
  obtain⟨q,hq⟩:∃q,inR 0 ((n:Int)-1) sk=q:=⟨_,rfl⟩
  have Hq:=Lib.hid hq
  clear hq
  go_enter Tryz.func126,Tryz.ntmps126
  go_wp2_with fail
  refine(within_one 0 L sf (w.heap.size+1) _ (by simp) (by go_simp)).mono ?_
  rintro e w1⟨rfl,hb1⟩
  have k4:w1.cell? ⟨b4,0,none⟩=some (.slice KA n kc):=(hb1.cell (p:=⟨b4,0,none⟩) (by simp;omega)).trans (by go_simp)
  have k2:w1.cell? ⟨w.heap.size,1,none⟩=some (.int .i64 sk):=(hb1.cell (p:=⟨w.heap.size,1,none⟩) (by simp;omega)).trans (by go_simp)
  have z1:=hb1.size
  simp at z1
  have z2:w.heap.size<w1.heap.size:=by omega
  have z3:b4<w1.heap.size:=by omega
  go_wp2_with fail
  refine(within_one 0 ((n:Int)-1) sk w1.heap.size _ (by simp) (by go_simp)).mono ?_
  rintro e w2⟨rfl,hb2⟩
  cases q with
  |false=>
   rw[Hq.out]at HE ⊢
   go_wp2_with fail
   go_ret
   exact⟨ret_bool HE.out.symm,Below.later (balloc (Below.later (balloc (balloc (brefl _) _) _) hb1) _) hb2⟩
  |true=>
   rw[Hq.out]at HE ⊢
   go_wp2_with fail
   go_ret
   exact⟨ret_bool HE.out.symm,Below.later (balloc (Below.later (balloc (balloc (brefl _) _) _) hb1) _) hb2⟩
set_option maxHeartbeats 1000000 in
theorem all1_any(b T L:Nat)(FA:Option Addr)(fn fc:Nat)(KA:Option Addr)(kc:Nat)(fs:List Int)(ks:List Kd)(s:Sh)(w:World)(hT:TabOk w T L FA fn fc KA kc fs ks)(hb:b<w.heap.size)
 (h0:w.cell? ⟨b,0,none⟩=some (.func (.func 101) #[.pointer (some ⟨T,0,none⟩)] #[]))(hs:oddB L ks.length s=false):
 Calls Tryz.prog 168 #[.agg #[.int .i64 s.f,.int .i64 s.k],.pointer (some ⟨b,0,none⟩)] w λe w'=>e=.returned (.bool (!canS L (Fst fs L) ks s))/\Below w.heap.size w w':=by
 obtain⟨sf,sk⟩:=s
 have hl2:=hT.l2
 simp only[oddB,Bool.or_eq_false_iff,Bool.not_eq_false',inR_iff]at hs
 obtain⟨⟨s1,s2⟩,s3,s4⟩:=hs
 obtain⟨f,rfl⟩:∃f:Nat,sf=f:=⟨sf.toNat,by omega⟩
 obtain⟨k,rfl⟩:∃k:Nat,sk=k:=⟨sk.toNat,by omega⟩
 obtain⟨x,hx⟩:∃x,ks[k]? =some x:=⟨_,List.getElem?_eq_getElem (by omega)⟩
 have hcan:=Lib.hid (λW hW=>can_tab (((hT.later (w':=W) hW).tab).core) hT.kok hl2 (Fst_bd fs hl2) hx f (by omega))
 have HE:=Lib.hid (show canS L (Fst fs L) ks ⟨f,k⟩=canB L (Fst fs L) x f by simp[canS,hx])
 rw[HE.out]
 clear hT HE hx
 have hne:b≠w.heap.size:=by omega
 go_enter Tryz.func168,Tryz.ntmps168
 go_wp2_with fail
 refine(hcan.out _ (balloc (brefl w) _)).mono ?_
 rintro e w1⟨rfl,hb1⟩
 have HB:=Lib.hid (Below.later (balloc (brefl w) _) hb1)
 clear hb1
 go_wp2_with fail
 go_ret
 exact⟨rfl,HB.out⟩
set_option maxHeartbeats 1000000 in
theorem all_any(T L:Nat)(FA:Option Addr)(fn fc:Nat)(KA:Option Addr)(kc:Nat)(fs:List Int)(ks:List Kd)(CA:Option Addr)(cn cc:Nat)(cuts:List Sh)(w:World)(hT:TabOk w T L FA fn fc KA kc fs ks)
 (hC:Sl 2 encS w w.heap.size CA cn cc cuts)(hs:cuts.any (oddB L ks.length)=false):
 Calls Tryz.prog 129 #[.pointer (some ⟨T,0,none⟩),.slice CA cn cc] w λe w'=>e=.returned (.bool (!cuts.any (λs=>!canS L (Fst fs L) ks s)))/\Below w.heap.size w w':=by
 have hc:=Lib.hid (λW(hb:Below w.heap.size w W)(b:Nat)(hbl:b<W.heap.size)(h0:W.cell? ⟨b,0,none⟩=some (.func (.func 101) #[.pointer (some ⟨T,0,none⟩)] #[]))=>
  containsS 168 #[.pointer (some ⟨b,0,none⟩)] (enters_of Tryz.func168 (by kernel_rfl) rfl) (λs=>!canS L (Fst fs L) ks s) CA cn cc cuts W (hC.later hb)
   (λx W' hx hW'=>all1_any b T L FA fn fc KA kc fs ks x W' ((hT.later hb).later hW') (by have:=hW'.size;omega) ((hW'.cell (p:=⟨b,0,none⟩) hbl).trans h0) (by
     cases ho:oddB L ks.length x with
     |false=>rfl
     |true=>rw[List.any_eq_true.2 ⟨x,hx,ho⟩]at hs;cases hs)))
 clear hT hC hs
 go_enter Tryz.func129,Tryz.ntmps129
 go_wp2_with fail
 refine(hc.out _ (balloc (brefl w) _) w.heap.size (by simp) (by go_simp)).mono ?_
 rintro e w1⟨rfl,hb1⟩
 have HB:=Lib.hid (Below.later (balloc (brefl w) _) hb1)
 clear hb1
 go_wp2_with fail
 go_ret
 exact⟨rfl,HB.out⟩
structure CC(w W:World)(T L:Nat)(FA:Option Addr)(fn fc:Nat)(KA:Option Addr)(kc:Nat)(fs:List Int)(ks:List Kd)(CA:Option Addr)(cn cc:Nat)(cuts:List Sh):Prop where
 bel:Below w.heap.size w W
 tab:TabOk W T L FA fn fc KA kc fs ks
 cts:Sl 2 encS W W.heap.size CA cn cc cuts
 c0:W.cell? ⟨w.heap.size,0,none⟩=some (.int .i64 L)
 c1:W.cell? ⟨w.heap.size+1,0,none⟩=some (.slice KA ks.length kc)
 lt:w.heap.size+1<W.heap.size
theorem CC.later{w W W':World}{T L:Nat}{FA:Option Addr}{fn fc:Nat}{KA:Option Addr}{kc:Nat}{fs:List Int}{ks:List Kd}{CA:Option Addr}{cn cc:Nat}{cuts:List Sh}(h:CC w W T L FA fn fc KA kc fs ks CA cn cc cuts)(hb:Below W.heap.size W W'):CC w W' T L FA fn fc KA kc fs ks CA cn cc cuts:=by
 have hl:=h.lt
 exact⟨Below.later h.bel hb,h.tab.later hb,h.cts.later hb,(hb.cell (p:=⟨w.heap.size,0,none⟩) (by show w.heap.size<_;omega)).trans h.c0,(hb.cell (p:=⟨w.heap.size+1,0,none⟩) hl).trans h.c1,by have:=hb.size;omega⟩
def LoopK(w:World)(T L:Nat)(FA:Option Addr)(fn fc:Nat)(KA:Option Addr)(kc:Nat)(fs:List Int)(ks:List Kd)(CA:Option Addr)(cn cc:Nat)(cuts:List Sh)(n:Nat)(a:Act)(W:World):Prop:=
 ∃i next worth,i+n=cn/\walkCuts ks (cuts.drop i) next worth=walkCuts ks cuts 0 0/\(0<=next/\next<=48)/\(0<=worth/\worth<=1000*i)/\Fits (none::none::none::some (.pointer (some ⟨w.heap.size,0,none⟩))::some (.pointer (some ⟨w.heap.size+1,0,none⟩))::none::none::none::some (.pointer (some ⟨T,0,none⟩))::none::none::some (.int .i64 worth)::some (.int .i64 next)::none::none::none::none::none::none::none::none::none::none::none::none::none::none::none::none::none::none::none::none::none::none::none::none::none::none::none::none::some (.slice CA cn cc)::some (.int .i64 (cn:Nat))::some (.int .i64 (i:Nat))::none::none::none::none::none::none::none::none::none::none::none::none::none::none::none::none::none::none::none::none::[]) a.tmps.toList/\a.defers=[]/\CC w W T L FA fn fc KA kc fs ks CA cn cc cuts
set_option maxRecDepth 100000 in
set_option maxHeartbeats 2000000 in
theorem CheckCuts_ok(L:Nat)(FA:Option Addr)(fn fc:Nat)(fs:List Int)(KA:Option Addr)(kc:Nat)(ks:List Kd)(CA:Option Addr)(cn cc:Nat)(cuts:List Sh)(w:World)(hfs:Sl 1 encI w w.heap.size FA fn fc fs)(hks:Sl 3 encK w w.heap.size KA ks.length kc ks)
 (hC:Sl 2 encS w w.heap.size CA cn cc cuts)(he:rkE L fs ks=0):
 Calls Tryz.prog 68 #[.agg #[.int .i64 L,.slice FA fn fc],.slice KA ks.length kc,.slice CA cn cc] w λe w'=>e=.returned (.tuple #[.int .i64 (cutsP L (Fst fs L) ks cuts).1,.int .i64 (cutsP L (Fst fs L) ks cuts).2])/\Below w.heap.size w w':=by
 have ho:=Lib.hid (λW hb=>open_ok L FA fn fc fs KA kc ks W (hfs.later (w':=W) hb) (hks.later hb) he)
 have hcl:=hC.len
 have hbig:=hC.big
 have hcap:=hC.cap
 have HC:=Lib.hid hC
 obtain⟨r,hr⟩:∃r,cutsP L (Fst fs L) ks cuts=r:=⟨_,rfl⟩
 rw[hr]
 have HR:=Lib.hid hr
 clear hfs hks he hr hC
 go_enter Tryz.func68,Tryz.ntmps68
 go_wp2_with fail
 refine(ho.out _ (balloc (balloc (brefl w) _) _)).mono ?_
 rintro e w1⟨T,rfl,hb1,hT⟩
 have hB1:=Below.later (balloc (balloc (brefl w) _) _) hb1
 have z0:=hb1.size
 simp at z0
 have hCC:CC w w1 T L FA fn fc KA kc fs ks CA cn cc cuts:=⟨hB1,hT,HC.out.later hB1,(hb1.cell (p:=⟨w.heap.size,0,none⟩) (by simp;omega)).trans (by go_simp),(hb1.cell (p:=⟨w.heap.size+1,0,none⟩) (by simp)).trans (by go_simp),by omega⟩
 have hk6:=hT.kok.2.1
 have hL24:=hT.l2
 have k0:=hCC.c0
 have HCC:=Lib.hid hCC
 clear hB1 hb1 hT hCC
 by_cases h1:L<cuts.length
 ·have hd:decide ((cn:Int)<=(L:Int))=false:=by simp;omega
  have hd1:decide ((L:Int)<(cn:Int))=true:=by simp;omega
  have HR2:=Lib.hid (show r=(0,6)by rw[<-HR.out];simp[cutsP,h1])
  go_wp2
  go_ret2
  exact⟨by rw[HR2.out];rfl,HCC.out.bel⟩
 ·have hd:decide ((L:Int)<(cn:Int))=false:=by simp;omega
  go_wp2_with fail
  refine(containsS 126 #[.pointer (some ⟨w.heap.size,0,none⟩),.pointer (some ⟨w.heap.size+1,0,none⟩)] (enters_of Tryz.func126 (by kernel_rfl) rfl) (oddB L ks.length) CA cn cc cuts _ HCC.out.cts
   (λx W _ hb=>odd_any _ _ ks.length kc KA L x W (HCC.out.later hb).c0 (HCC.out.later hb).c1 (by have:=(HCC.out.later hb).lt;omega) (HCC.out.later hb).lt (by omega))).mono ?_
  rintro e w2⟨rfl,hb2⟩
  have HCC2:=Lib.hid (HCC.out.later hb2)
  clear hb2 HCC k0
  cases h2:cuts.any (oddB L ks.length)with
  |true=>
   have HR2:=Lib.hid (show r=(0,3)by rw[<-HR.out];simp[cutsP,h1,h2])
   clear h2
   go_wp2
   go_ret2
   exact⟨by rw[HR2.out];rfl,HCC2.out.bel⟩
  |false=>
   have Hodd:=Lib.hid h2
   go_wp2_with fail
   refine(all_any T L FA fn fc KA kc fs ks CA cn cc cuts w2 HCC2.out.tab HCC2.out.cts Hodd.out).mono ?_
   rintro e w3⟨rfl,hb3⟩
   have HCC3:=Lib.hid (HCC2.out.later hb3)
   clear hb3 HCC2
   cases h3:cuts.any (λs=>!canS L (Fst fs L) ks s)with
   |true=>
    have HR2:=Lib.hid (show r=(0,18)by rw[<-HR.out];simp only[cutsP,h1,h2,h3,if_true,if_false];rfl)
    clear h2 h3
    go_wp2
    go_ret2
    exact⟨by rw[HR2.out];rfl,HCC3.out.bel⟩
   |false=>
    have HR2:=Lib.hid (show r=walkCuts ks cuts 0 0 by rw[<-HR.out];simp only[cutsP,h1,h2,h3,if_false];rfl)
    clear h2 h3
    go_wp2_with fail
    refine loop_n (LoopK w T L FA fn fc KA kc fs ks CA cn cc cuts) cn ?_ ?_
    ·refine⟨0,0,0,by omega,by simp,by omega,by omega,?_,rfl,HCC3.out⟩
     repeat (first|exact fits_nil|refine fits_none ?_|refine fits_some ?_)
    clear HCC3
    intro n a W hI K hK
    obtain⟨i,next,worth,hin,hwk,hnx,hwo,hfit,hds,hN⟩:=hI
    obtain⟨f,hf⟩:=fits_act hfit
    rw[hds]at hf
    subst hf
    clear hfit hds
    simp only[fillP,Nat.reduceAdd]
    obtain⟨n1,n2⟩:=hnx
    obtain⟨o1,o2⟩:=hwo
    by_cases hlt:i<cn
    ·obtain⟨b,o,s,hA,hB,hx,g0,g1⟩:=hN.cts.ltS hlt
     have hdr:cuts.drop i=s::cuts.drop (i+1):=by
      obtain⟨hi',rfl⟩:=List.getElem?_eq_some_iff.1 hx
      exact List.drop_eq_getElem_cons hi'
     rw[hdr]at hwk
     have hodd:oddB L ks.length s=false:=by
      cases hq:oddB L ks.length s with
      |false=>rfl
      |true=>have:=List.any_eq_true.2 ⟨s,List.mem_of_getElem? hx,hq⟩;rw[Hodd.out]at this;cases this
     obtain⟨sf,sk⟩:=s
     simp only[oddB,Bool.or_eq_false_iff,Bool.not_eq_false',inR_iff]at hodd
     obtain⟨⟨s1,s2⟩,s3,s4⟩:=hodd
     obtain⟨k,rfl⟩:∃k:Nat,sk=k:=⟨sk.toNat,by omega⟩
     obtain⟨x,hxk⟩:∃x,ks[k]? =some x:=⟨_,List.getElem?_eq_getElem (by omega)⟩
     have hbd:=hN.tab.kok.bd hxk
     have hgd:ks.getD k ⟨0,0,0⟩=x:=by simp[List.getD,hxk]
     have hend:=Lib.hid (λW'(hb:Below W.heap.size W W')=>end_tab ((hN.later hb).tab.tab.core) hN.tab.kok hxk sf s1 (by omega))
     obtain⟨kb,ko,x',hKA,hkb,hx',e0,e1,_⟩:=hN.tab.tab.core.kds.ltK (List.getElem?_eq_some_iff.1 hxk).1
     rw[hxk]at hx'
     cases hx'
     have hkl:k<ks.length:=(List.getElem?_eq_some_iff.1 hxk).1
     have c0:=hN.c0
     have c1:=hN.c1
     have hlW:=hN.lt
     subst hA
     subst hKA
     have z0':w.heap.size+1<W.heap.size:=hlW
     have i1:(i:Int)<(cn:Int):=by omega
     have hne1:kb≠W.heap.size:=by omega
     simp only[walkCuts,Int.toNat_natCast,hgd]at hwk
     have HN:=Lib.hid hN
     by_cases hnx:sf<next
     ·rw[if_pos hnx]at hwk
      have hd1:decide (sf<next)=true:=by simpa using hnx
      have HR3:=Lib.hid (show r=(0,16)by rw[HR2.out,<-hwk])
      clear hwk hN hK hdr hx hxk hgd
      go_wp2_with fail
      go_ret2
      exact⟨by rw[HR3.out];rfl,balloc HN.out.bel _⟩
     ·rw[if_neg hnx]at hwk
      have hd1:decide (sf<next)=false:=by simpa using hnx
      have Hwk:=Lib.hid hwk
      obtain⟨⟨w1',w2'⟩,⟨p1,p2⟩,_⟩:=hbd
      clear hwk hN hdr hx hxk hgd
      go_wp2_with fail
      refine(hend.out _ (balloc (brefl W) _)).mono ?_
      rintro e w5⟨rfl,hb5⟩
      have hB5:=Below.later (balloc (brefl W) _) hb5
      have hN5:=HN.out.later hB5
      have d0:w5.cell? ⟨W.heap.size,0,none⟩=some (.int .i64 sf):=(hb5.cell (p:=⟨W.heap.size,0,none⟩) (by simp)).trans (by go_simp)
      have d1:w5.cell? ⟨W.heap.size,1,none⟩=some (.int .i64 k):=(hb5.cell (p:=⟨W.heap.size,1,none⟩) (by simp)).trans (by go_simp)
      have d2:W.heap.size<w5.heap.size:=by have:=hb5.size;simp at this;omega
      have d3:=hN5.c1
      have d4:w5.cell? ⟨kb,ko+k*3+1,none⟩=some (.int .i64 x.p):=(hB5.cell (p:=⟨kb,ko+k*3+1,none⟩) hkb).trans e1
      have d5:kb<w5.heap.size:=by omega
      have d6:=hN5.lt
      have HN5:=Lib.hid hN5
      clear hb5 hB5 hN5 c0 c1 e0 e1 g0 g1 HN
      go_wp2
      refine hK _ _ (n-1) (by omega) ⟨i+1,sf+x.w,worth+x.p,by omega,Hwk.out,by omega,by omega,?_,rfl,HN5.out⟩
      repeat (first|exact fits_nil|refine fits_none ?_|refine fits_some ?_)
    ·obtain rfl:i=cn:=by omega
     rw[List.drop_of_length_le (by omega)]at hwk
     have HR3:=Lib.hid (show r=(worth,0)by rw[HR2.out,<-hwk];rfl)
     have HN:=Lib.hid hN
     clear hwk hN hK
     go_wp2
     go_ret2
     exact⟨by rw[HR3.out];rfl,HN.out.bel⟩
end Go.Proofs.YtednconodjeniaaGreat.C
