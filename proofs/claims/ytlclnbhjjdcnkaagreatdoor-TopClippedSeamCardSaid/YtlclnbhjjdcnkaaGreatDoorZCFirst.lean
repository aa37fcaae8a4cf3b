/- clip.table.first: the first best cuts. -/
import Derived.Test.YtlclnbhjjdcnkaaGreatDoorZCCount
import Derived.OwnWalkIn
import Derived.Scope
namespace Go.Proofs.YtlclnbhjjdcnkaaGreatDoor.C
open Go.RowKit Go.Shelf
attribute [local go_sem] Oper.semAt_some
def tieB(ks:List Kd)(Bh:Nat->Int)(i k:Nat):Bool:=(ks.getD k ⟨0,0,0⟩).p+Bh (i+(ks.getD k ⟨0,0,0⟩).w.toNat)==Bh i
def firstAt(L:Nat)(F:Nat->Int)(ks:List Kd)(Bh:Nat->Int):Nat->Nat->List Sh
 |0,_=>[]
 |n+1,i=>if i<L then
   match((List.range ks.length).filter (canI L F ks i)).find? (tieB ks Bh i)with
   |some k=>⟨i,k⟩::firstAt L F ks Bh n (i+(ks.getD k ⟨0,0,0⟩).w.toNat)
   |none=>firstAt L F ks Bh n (i+1)
  else []
theorem find_of_pre{K k x:Nat}{c t:Nat->Bool}{pre:List Nat}(hk:k<=K)(hp:(List.range k).filter c=pre++[x])(hn:∀y∈pre,t y=false)(hx:t x=true):((List.range K).filter c).find? t=some x:=by
 obtain⟨d,rfl⟩:=Nat.exists_eq_add_of_le hk
 rw[List.range_add,List.filter_append,hp,List.append_assoc,List.find?_append]
 rw[List.find?_eq_none.2 (by intro y hy;simp[hn y hy])]
 simp[hx]
theorem firstAt_len{L:Nat}{F:Nat->Int}{ks:List Kd}{Bh:Nat->Int}:∀n i,(firstAt L F ks Bh n i).length<=n
 |0,_=>by simp[firstAt]
 |n+1,i=>by
  unfold firstAt
  split
  ·split
   ·simp only[List.length_cons];exact Nat.succ_le_succ (firstAt_len n _)
   ·exact Nat.le_succ_of_le (firstAt_len n _)
  ·simp
theorem Blk.grown{W W':World}{b:Nat}{t:TypeId}{cs:Array Value}{row:Option Nat}(h:Blk W b t cs)(hg:W.grownBy W' row)(hne:row≠some b):Blk W' b t cs:=
 (hg.block b h.lt (λe=>hne e.symm)).trans h
theorem Blk.notRow{W:World}{b base n size:Nat}{t e:TypeId}{cs:Array Value}{v:Value}{xs:List Value}(h:Blk W b t cs)(hown:W.ownsRow base e size v n xs)(ht:t≠e):v.ownBlock≠some b:=by
 intro hb
 rcases hown.2 with⟨rfl,_⟩|⟨g,cap,cur,rfl,_,hg,_⟩
 ·cases hb
 ·simp only[Value.ownBlock,Option.some.injEq]at hb
  subst hb
  unfold Blk at h
  rw[hg]at h
  simp at h
  exact ht h.2.symm
theorem own_later{W W':World}{base size n:Nat}{e:TypeId}{v:Value}{xs:List Value}(h:W.ownsRow base e size v n xs)(hb:Below W.heap.size W W'):W'.ownsRow base e size v n xs:=by
 refine⟨h.1,?_⟩
 rcases h.2 with hn|⟨g,cap,cur,rfl,h1,hg,h2⟩
 ·exact .inl hn
 ·exact .inr ⟨g,cap,cur,rfl,h1,(hb.block g (Array.getElem?_eq_some_iff.1 hg).1).trans hg,h2⟩
theorem own_kept{W W':World}{B base size n:Nat}{e:TypeId}{v:Value}{xs:List Value}(h:W.ownsRow base e size v n xs)(hk:Kept B W W'):W'.ownsRow base e size v n xs:=by
 refine⟨h.1,?_⟩
 rcases h.2 with hn|⟨g,cap,cur,rfl,h1,hg,h2⟩
 ·exact .inl hn
 ·exact .inr ⟨g,cap,cur,rfl,h1,hk.cells g cur e (0,0) hg,h2⟩
theorem own_other{W:World}{base size n:Nat}{e:TypeId}{v:Value}{xs:List Value}(h:W.ownsRow base e size v n xs)(p:Addr)(hp:v.ownBlock≠some p.block)(u:Value):(W.setCell p u).ownsRow base e size v n xs:=by
 refine⟨h.1,?_⟩
 rcases h.2 with hn|⟨g,cap,cur,rfl,h1,hg,h2⟩
 ·exact .inl hn
 ·refine .inr ⟨g,cap,cur,rfl,h1,(Below.heap_setCell W p u g (λe=>hp (by simp[Value.ownBlock,e]))).trans hg,h2⟩
structure FT(w W:World)(T i:Nat)(v:Value)(xs:List Sh):Prop where
 bel:Below w.heap.size w W
 b0:Blk W w.heap.size 65 #[.pointer (some ⟨T,0,none⟩)]
 b1:Blk W (w.heap.size+1) 30 #[v]
 own:W.ownsRow w.heap.size 37 2 v xs.length (xs.flatMap encS)
 b2:Blk W (w.heap.size+1+1) 3 #[.int .i64 i]
section
variable{w W W':World}{T i:Nat}{v:Value}{xs:List Sh}
theorem FT.later(h:FT w W T i v xs)(hb:Below W.heap.size W W'):FT w W' T i v xs:=
 ⟨Below.later h.bel hb,h.b0.later hb,h.b1.later hb,own_later h.own hb,h.b2.later hb⟩
theorem FT.kept{B:Nat}(h:FT w W T i v xs)(hk:Kept B W W')(hB:w.heap.size<=B):FT w W' T i v xs:=
 ⟨h.bel.trans ⟨hk.os,hk.tape,hk.output,hk.size,λi hi=>hk.low i (by omega) (by have:=h.bel.size;omega)⟩,h.b0.kept hk,h.b1.kept hk,own_kept h.own hk,h.b2.kept hk⟩
theorem FT.set(h:FT w W T i v xs)(j:Nat):FT w (W.setCell ⟨w.heap.size+1+1,0,none⟩ (.int .i64 j)) T j v xs:=
 ⟨h.bel.setCell (by show w.heap.size<=w.heap.size+1+1;omega) _,h.b0.other (by show w.heap.size+1+1≠_;omega) _,h.b1.other (by show w.heap.size+1+1≠_;omega) _,own_other h.own _ (h.b2.notRow h.own (by decide)) _,h.b2.set 0 _⟩
theorem FT.cells(h:FT w W T i v xs):W.cell? ⟨w.heap.size,0,none⟩=some (.pointer (some ⟨T,0,none⟩))/\W.cell? ⟨w.heap.size+1,0,none⟩=some v/\
 W.cell? ⟨w.heap.size+1+1,0,none⟩=some (.int .i64 i)/\w.heap.size+1+1<W.heap.size:=
 ⟨h.b0.cell 0,h.b1.cell 0,h.b2.cell 0,h.b2.lt⟩
theorem FT.grown{v':Value}(h:FT w W T i v xs)(x:Sh)(hg:W.grownBy W' v.ownBlock)(ho:W'.ownsRow w.heap.size 37 2 v' (xs.length+1) (xs.flatMap encS++encS x)):
 FT w (W'.setCell ⟨w.heap.size+1,0,none⟩ v') T i v' (xs++[x]):=by
 have hrow:∀k,v.ownBlock=some k->w.heap.size<=k:=λk hk=>(h.own.lt k hk).1
 have b1:=h.b1.grown hg (h.b1.notRow h.own (by decide))
 refine⟨Below.setCell (h.bel.trans ⟨hg.os,hg.tape,hg.output,hg.size,λi hi=>hg.block i (by have:=h.bel.size;omega) (λe=>by have:=hrow i e.symm;omega)⟩) (by show w.heap.size<=w.heap.size+1;omega) _,
  (h.b0.grown hg (h.b0.notRow h.own (by decide))).other (by show w.heap.size+1≠_;omega) _,b1.set 0 _,?_,(h.b2.grown hg (h.b2.notRow h.own (by decide))).other (by show w.heap.size+1≠_;omega) _⟩
 have h5:=own_other ho ⟨w.heap.size+1,0,none⟩ (b1.notRow ho (by decide)) v'
 simpa[List.flatMap_append]using h5
theorem KpT.of_grown{B1 B2 T:Nat}{KA:Option Addr}{row:Option Nat}(hg:W.grownBy W' row)(h1:B1<W.heap.size)(h2:B2<W.heap.size)(hT:T<W.heap.size)(hK:∀b o,KA=some ⟨b,o,none⟩->b<W.heap.size/\row≠some b)(g1:row≠some B1)(g2:row≠some B2)(g3:row≠some T):KpT B1 B2 T KA W W':=by
 refine⟨hg.size,λb o hb=>World.cell?_of_block (a:=⟨b,o,none⟩) ?_,λo=>World.cell?_of_block (a:=⟨B1,o,none⟩) (hg.block B1 h1 (λe=>g1 e.symm)),λo=>World.cell?_of_block (a:=⟨B2,o,none⟩) (hg.block B2 h2 (λe=>g2 e.symm))⟩
 rcases hb with⟨rfl,_⟩|⟨_,o',h'⟩
 ·exact hg.block _ hT (λe=>g3 e.symm)
 ·exact hg.block _ (hK b o' h').1 (λe=>(hK b o' h').2 e.symm)
end
theorem info_sheet:(Tryz.prog.info? 37).map (λi=>(i.zero,i.size,i.bytes))=some (some (.agg #[.int .i64 0,.int .i64 0]),2,16):=by kernel_rfl
theorem und_sheets:Tryz.prog.underlying 30=some (.slice 37):=by kernel_rfl
theorem KeepD.own{W0 W W':World}{base size n:Nat}{e:TypeId}{v:Value}{xs:List Value}(h:KeepD W0 W)(ho:W.ownsRow base e size v n xs)(hg:W.grownBy W' v.ownBlock):KeepD W0 W':=by
 intro k c hk
 have h1:=h k c hk
 refine(hg.block k (Array.getElem?_eq_some_iff.1 h1).1 (λhb=>?_)).trans h1
 rcases ho.2 with⟨rfl,_⟩|⟨g,cap,cur,rfl,_,hgg,_⟩
 ·cases hb
 ·simp only[Value.ownBlock,Option.some.injEq]at hb
  subst hb
  rw[hgg]at h1
  cases h1
theorem own_succ{W:World}{base:Nat}{e:TypeId}{size:Nat}{v:Value}{k:Nat}{xs:List Value}(h:W.ownsRow base e size v (k+1) xs):∃g cap,v=.slice (some ⟨g,0,none⟩) (k+1) cap:=by
 rcases h.2 with⟨_,h0⟩|⟨g,cap,_,rfl,_⟩
 ·omega
 ·exact⟨g,cap,rfl⟩
theorem two_new(w:World)(x y:Value)(t:TypeId):∀j u,[x,y][j]? =some u->(w.alloc (.cells #[x,y] t)).cell? ((⟨w.heap.size,0,none⟩:Addr).add j)=some u:=by
 intro j u hu
 have hadd:(⟨w.heap.size,0,none⟩:Addr).add j=⟨w.heap.size,j,none⟩:=by unfold Addr.add;split<;>simp_all
 rw[hadd,(Blk.new w t #[x,y]).cell]
 simpa using hu
def LoopF(w:World)(T L:Nat)(ks:List Kd)(F Bh:Nat->Int)(n:Nat)(a:Act)(W:World):Prop:=
 ∃i v xs,L<=i+n/\i<=L/\xs++firstAt L F ks Bh n i=firstAt L F ks Bh L 0/\Fits (none::some (.pointer (some ⟨w.heap.size,0,none⟩))::none::some (.pointer (some ⟨w.heap.size+1,0,none⟩))::some (.pointer (some ⟨w.heap.size+1+1,0,none⟩))::none::none::none::none::none::none::none::none::none::none::none::none::none::none::none::none::none::none::none::none::none::none::none::none::none::none::none::none::none::none::none::none::none::none::none::none::none::none::none::none::none::none::none::none::none::none::none::[]) a.tmps.toList/\Marks w.heap.size W a.defers/\FT w W T i v xs
set_option maxRecDepth 100000 in
set_option maxHeartbeats 2000000 in
theorem first_any(T L:Nat)(FA:Option Addr)(fn fc:Nat)(KA:Option Addr)(kc:Nat)(fs:List Int)(ks:List Kd)(w:World)(hT:TabOk w T L FA fn fc KA kc fs ks):
 Calls Tryz.prog 24 #[.pointer (some ⟨T,0,none⟩)] w λe w'=>∃v,e=.returned v/\Below w.heap.size w w'/\w'.ownsRow w.heap.size 37 2 v (firstAt L (Fst fs L) ks (behindAt L (Fst fs L) ks L) L 0).length ((firstAt L (Fst fs L) ks (behindAt L (Fst fs L) ks L) L 0).flatMap encS):=by
 obtain⟨htab,hko,hL1,hL2,hne⟩:=hT
 have hB24:=behindAt_bd (L:=L) (F:=Fst fs L) hko L (Nat.le_refl _)
 obtain⟨Bh,hBh⟩:∃Bh,behindAt L (Fst fs L) ks L=Bh:=⟨_,rfl⟩
 rw[hBh]at hB24 ⊢
 have HBh:=Lib.hid hBh
 have HB24:=Lib.hid hB24
 have HT:=Lib.hid htab
 have Hk:=Lib.hid hko
 have Hne:=Lib.hid hne
 have hTl:=htab.core.lt
 have t0:=htab.core.len
 clear htab hko hne hBh hB24
 refine calls_of_marks Tryz.func24 rfl ?_
 simp only[Tryz.ntmps24,List.size_toArray,List.length_cons,List.length_nil,Nat.reduceAdd,Nat.reduceSub,Array.replicate_succ,Array.replicate_zero,List.push_toArray,List.append_toArray,List.nil_append,List.cons_append]
 go_wp2_with fail
 refine wp_scope_straight ?_
 go_wp2_with fail
 obtain⟨W0,hW0⟩:∃W0,((w.alloc (Obj.cells #[Value.pointer (some ⟨T,0,none⟩)] 65)).alloc (Obj.cells #[Value.slice none 0 0] 30)).alloc (Obj.cells #[Value.int .i64 0] 3)=W0:=⟨_,rfl⟩
 have hF0:FT w W0 T 0 (.slice none 0 0) []:=by
  rw[<-hW0]
  refine⟨balloc (balloc (balloc (brefl w) _) _) _,((Blk.new w _ _).alloc _).alloc _,?_,World.ownsRow_nil _ _ _ _,?_⟩
  ·have h5:=(Blk.new (w.alloc (Obj.cells #[Value.pointer (some ⟨T,0,none⟩)] 65)) 30 #[Value.slice none 0 0]).alloc (Obj.cells #[Value.int .i64 0] 3)
   rw[World.size_alloc]at h5
   exact h5
  ·have h5:=Blk.new ((w.alloc (Obj.cells #[Value.pointer (some ⟨T,0,none⟩)] 65)).alloc (Obj.cells #[Value.slice none 0 0] 30)) 3 #[Value.int .i64 0]
   rw[World.size_alloc,World.size_alloc]at h5
   exact h5
 rw[hW0]
 clear hW0
 refine wp_label ?_
 go_wp2_with fail
 refine loop_n (LoopF w T L ks (Fst fs L) Bh) L ?_ ?_
 ·refine⟨0,_,[],by omega,by omega,rfl,?_,Marks.nil _ _,hF0⟩
  repeat (first|exact fits_nil|refine fits_none ?_|refine fits_some ?_)
 clear hF0 t0
 intro n a W hI K hK
 obtain⟨i,v,xs,hin,hiL,hxs,hfit,hm,hN⟩:=hI
 obtain⟨f,hf⟩:=fits_act hfit
 generalize a.defers=ds at*
 subst hf
 clear hfit
 simp only[fillP,Nat.reduceAdd]
 obtain⟨c0,c1,c2,hsz⟩:=hN.cells
 have z0:w.heap.size<W.heap.size:=by omega
 have z1:w.heap.size+1<W.heap.size:=by omega
 have z2:T<W.heap.size:=by omega
 have htW:=HT.out.later hN.bel
 have t0:=htW.core.len
 have HM:=Lib.hid hm
 have HN:=Lib.hid hN
 have Hxs:=Lib.hid hxs
 clear hm hN htW hxs
 go_wp2_with fail
 refine dag 7 (by kernel_rfl) (by kernel_rfl) (.is ?_::.is ?_::.is ?_::.is ?_::.is ?_::.is ?_::.is ?_::[]) rfl ?st ?ob
 case st=>simp[Spec.ok]
 case ob=>
  intro env W' hG
  obtain⟨hc,hf⟩:=bcell hG
  repeat (refine obls_is ?_ ?_;unfold doesAt;go_simp;(try go_bits);refine⟨brefl _,?_⟩;rfl;intro K hK;go_simp;refine hK _ ?_;clear hK K)
  refine obls_nil (λ_=>?_)
  have hN':=HN.out.later hG
  have hM':=HM.out.later hG
  clear hc hf c0 c1 c2 hsz z0 z1 z2 t0 HN HM hG
  clear W
  obtain⟨c0,c1,c2,hsz⟩:=hN'.cells
  have z0:w.heap.size<W'.heap.size:=by omega
  have z1:w.heap.size+1<W'.heap.size:=by omega
  have z2:T<W'.heap.size:=by omega
  have HM:=Lib.hid hM'
  have HN:=Lib.hid hN'
  clear hM' hN'
  generalize W'=W2 at*
  by_cases hlt:i<L
  ·have hn0:0<n:=by omega
   go_wp2_with fail
   refine(sheets_any T i W2).mono ?_
   rintro e w3⟨rfl,hw3⟩
   have hb3:Below W2.heap.size W2 w3:=by rw[<-hw3];exact balloc (balloc (brefl _) _) _
   have d1:w3.cell? ⟨W2.heap.size,0,none⟩=some (.pointer (some ⟨T,0,none⟩)):=by rw[<-hw3];exact((Blk.new W2 _ _).alloc _).cell 0
   have d2:w3.cell? ⟨W2.heap.size+1,0,none⟩=some (.int .i64 i):=by rw[<-hw3];have h5:=(Blk.new (W2.alloc (.cells #[.pointer (some ⟨T,0,none⟩)] 65)) 3 #[.int .i64 i]).cell 0;rw[World.size_alloc]at h5;exact h5
   have d3:w3.heap.size=W2.heap.size+1+1:=by rw[<-hw3];simp
   have D3:=Lib.hid d3
   have Hb3:=Lib.hid hb3
   have D1:=Lib.hid d1
   have D2:=Lib.hid d2
   have HN2:=HN
   clear hw3 hb3 d1 d2 d3
   go_wp2_with fail
   have hN3:=HN.out.later Hb3.out
   refine range_sheets (B1:=W2.heap.size) (B2:=W2.heap.size+1) (T:=T) (L:=L) (F:=Fst fs L) (fr:=i) (d:=5) (w:=w3) rfl Hk.out hL2 (Fst_bd fs hL2) (by omega) Hne.out (by rw[D3.out];omega) (by rw[D3.out];omega) D1.out D2.out (HT.out.later hN3.bel).core
    (λ(pre:List (Ki L (Fst fs L) ks i))W=>FT w W T i v xs/\KeepD w3 W/\∀y∈pre,tieB ks Bh i y.1=false)
    (λc(pre:List (Ki L (Fst fs L) ks i))W=>∃(pre':List (Ki L (Fst fs L) ks i))(x:Ki L (Fst fs L) ks i)(v':Value),c=.exit 1/\pre=pre'++[x]/\(∀y∈pre',tieB ks Bh i y.1=false)/\tieB ks Bh i x.1=true/\FT w W T (i+(ks.getD x.1 ⟨0,0,0⟩).w.toNat) v' (xs++[⟨i,x.1⟩])/\KeepD w3 W)
    ?hI ?hIx
    ⟨hN3,KeepD.refl _,by simp⟩ ?assign ?body ?done ?stop
   case hI=>exactλpre W W' hK h=>⟨h.1.kept hK (by rw[D3.out];omega),h.2.1.kept hK,h.2.2⟩
   case hIx=>
    intro c pre W W' hK h
    obtain⟨pre',x,v',h1,h2,h3,h4,h5,h6⟩:=h
    exact⟨pre',x,v',h1,h2,h3,h4,h5.kept hK (by rw[D3.out];omega),h6.kept hK⟩
   case assign=>
    intro l x W K hK
    gi_wp2
    exact hK
   case body=>
    intro l pre x Bx W hWs hBx hbx hI hpl
    obtain⟨hN,hKD,hpre⟩:=hI
    obtain⟨k,hkc⟩:=x
    obtain⟨y,hy,hcb⟩:∃y,ks[k]? =some y/\canB L (Fst fs L) y i=true:=by
     unfold canI at hkc
     cases hy:ks[k]? with
     |none=>rw[hy]at hkc;cases hkc
     |some y=>rw[hy]at hkc;exact⟨y,rfl,hkc⟩
    have hybd:=Hk.out.bd hy
    obtain⟨wd,hwd⟩:∃wd:Nat,y.w=wd:=⟨y.w.toNat,by omega⟩
    have hle:=(canB_iff.1 hcb).1
    have hgd:ks.getD k ⟨0,0,0⟩=y:=by simp[List.getD,hy]
    obtain⟨kb,ko,y',hKA,hkb,hy',e0,e1,_⟩:=(HT.out.later hN.bel).core.kds.ltK (List.getElem?_eq_some_iff.1 hy).1
    rw[hy]at hy'
    cases hy'
    have htW:=HT.out.later hN.bel
    have hendW:∀W',TabC W' W'.heap.size T L FA fn fc KA kc ks (Fst fs L)->Calls Tryz.prog 30 #[.pointer (some ⟨T,0,none⟩),.agg #[.int .i64 i,.int .i64 k]] W' λe w'=>e=.returned (.int .i64 (i+wd))/\Below W'.heap.size W' w':=by
     intro W' hC
     have h5:=end_tab hC Hk.out hy (i:Int) (by omega) (by omega)
     rw[hwd]at h5
     exact h5
    have HendW:=Lib.hid hendW
    rw[hwd]at e0
    obtain⟨c0,c1,c2,hsz⟩:=hN.cells
    have b0:=hbx.cell 0
    have b1:=hbx.cell 1
    have zb:=hbx.lt
    have t1:=htW.core.knd
    have t2:=htW.be i (by omega)
    have t3:=htW.be (i+wd) (by omega)
    have hkl:k<ks.length:=(List.getElem?_eq_some_iff.1 hy).1
    have hbd1:=HB24.out i
    have hbd2:=HB24.out (i+wd)
    have HtW:=Lib.hid htW
    have Hkb:=Lib.hid (show∀b o,KA=some ⟨b,o,none⟩->b<w.heap.size fromλb o h=>by obtain⟨b',o',hA,hB,_⟩:=HT.out.core.kds.at_ (by omega);rw[h]at hA;cases hA;exact hB)
    have Hek:=Lib.hid hKA
    subst hKA
    have z0:w.heap.size<W.heap.size:=by omega
    have z1:w.heap.size+1<W.heap.size:=by omega
    have z2:T<W.heap.size:=by omega
    have j0:(0:Int)<=(i:Int)+(wd:Int):=by omega
    have j1:(i:Int)+(wd:Int)<25:=by omega
    have j2:((i:Int)+(wd:Int)).toNat=i+wd:=by omega
    have j3:(i:Int)<25:=by omega
    rw[HBh.out]at t2 t3
    have hp:1<=y.p/\y.p<=1000:=hybd.2.1
    obtain⟨hp1,hp2⟩:=hp
    obtain⟨hbd1,hbd1'⟩:=hbd1
    obtain⟨hbd2,hbd2'⟩:=hbd2
    have hbd3:Bh (i+wd)<=24000:=by omega
    have htB:tieB ks Bh i k=(y.p+Bh (i+wd)==Bh i):=by unfold tieB;rw[hgd,hwd];rfl
    cases htie:(y.p+Bh (i+wd)==Bh i)with
    |false=>
     rw[htie]at htB
     have HtB:=Lib.hid htB
     have HN:=Lib.hid hN
     have HKD:=Lib.hid hKD
     have HW3:=Lib.hid hWs
     have Hpre:=Lib.hid hpre
     clear hN hKD hWs hendW hwd hy hcb hybd htW hbx htB hgd hpre hbd1' hbd2' Hek
     unfold boxedAct
     gi_wp2_with fail
     refine dagIn 25 (lets_round l 7 _) (by kernel_rfl) (by kernel_rfl) (.is ?_::.is ?_::.is ?_::.is ?_::.is ?_::.is ?_::.is ?_::.is ?_::.is ?_::.is ?_::.is ?_::.is ?_::.is ?_::.is ?_::.is ?_::.is ?_::.is ?_::.is ?_::.is ?_::.is ?_::.is ?_::.is ?_::.is ?_::.is ?_::.is ?_::[]) rfl ?st2 ?ob2
     case st2=>simp[Spec.ok]
     case ob2=>
      intro env W' hG
      obtain⟨hc,hf⟩:=bcell hG
      iterate 12 (refine obls_is ?_ ?_;unfold doesAt;go_simp;(try go_bits);refine⟨brefl _,?_⟩;rfl;intro K hK;go_simp;refine hK _ ?_;clear hK K)
      refine obls_is ?_ ?_
      ·unfold doesAt
       go_simp
       refine(HendW.out W' (HtW.out.core.later hG)).mono ?_
       rintro e w1⟨rfl,hb1⟩
       refine⟨?_,hb1⟩
       rfl
      intro K hK
      go_simp
      refine hK _ ?_
      clear hK K
      iterate 12 (refine obls_is ?_ ?_;unfold doesAt;go_simp;(try go_bits);refine⟨brefl _,?_⟩;rfl;intro K hK;go_simp;refine hK _ ?_;clear hK K)
      refine obls_nil (λ_=>?_)
      clear hc hf
      gi_wp2
      refine⟨KeepsFrom.later hG,KpT.of_below hG (by have:=HW3.out;rw[D3.out]at this;omega) (by have:=HW3.out;rw[D3.out]at this;omega) (by omega) (λb o h=>by have:=Hkb.out b o h;omega),HN.out.later hG,HKD.out.later hG,λz hz=>?_⟩
      rcases List.mem_append.1 hz with hz|hz
      ·exact Hpre.out z hz
      ·rw[List.mem_singleton.1 hz];exact HtB.out
    |true=>
     rw[htie]at htB
     have HtB:=Lib.hid htB
     have HN:=Lib.hid hN
     have HKD:=Lib.hid hKD
     have HW3:=Lib.hid hWs
     have Hpre:=Lib.hid hpre
     have Hbx:=Lib.hid hbx
     have Hgd:=Lib.hid hgd
     have Hwd:=Lib.hid hwd
     clear hN hKD hWs hendW hwd hy hcb hybd htW hbx htB hgd hpre hbd1' hbd2'
     unfold boxedAct
     gi_wp2_with fail
     refine dagIn 25 (lets_round l 7 _) (by kernel_rfl) (by kernel_rfl) (.is ?_::.is ?_::.is ?_::.is ?_::.is ?_::.is ?_::.is ?_::.is ?_::.is ?_::.is ?_::.is ?_::.is ?_::.is ?_::.is ?_::.is ?_::.is ?_::.is ?_::.is ?_::.is ?_::.is ?_::.is ?_::.is ?_::.is ?_::.is ?_::.is ?_::[]) rfl ?st3 ?ob3
     case st3=>simp[Spec.ok]
     case ob3=>
      intro env W' hG
      obtain⟨hc,hf⟩:=bcell hG
      iterate 12 (refine obls_is ?_ ?_;unfold doesAt;go_simp;(try go_bits);refine⟨brefl _,?_⟩;rfl;intro K hK;go_simp;refine hK _ ?_;clear hK K)
      refine obls_is ?_ ?_
      ·unfold doesAt
       go_simp
       refine(HendW.out W' (HtW.out.core.later hG)).mono ?_
       rintro e w1⟨rfl,hb1⟩
       refine⟨?_,hb1⟩
       rfl
      intro K hK
      go_simp
      refine hK _ ?_
      clear hK K
      iterate 12 (refine obls_is ?_ ?_;unfold doesAt;go_simp;(try go_bits);refine⟨brefl _,?_⟩;rfl;intro K hK;go_simp;refine hK _ ?_;clear hK K)
      refine obls_nil (λ_=>?_)
      have b0':=(hc Bx 0 zb).trans b0
      have b1':=(hc Bx 1 zb).trans b1
      have c0':=(hc w.heap.size 0 z0).trans c0
      have c1':=(hc (w.heap.size+1) 0 z1).trans c1
      have zW:=hG.size
      have zb':Bx<W'.heap.size:=by omega
      have z0':w.heap.size<W'.heap.size:=by omega
      have z1':w.heap.size+1<W'.heap.size:=by omega
      have z3':w.heap.size+1+1<W'.heap.size:=by omega
      have HG:=Lib.hid hG
      clear hc hf hG b0 b1 c0 c1 c2 e0 e1 t1 t2 t3 zW
      have hGO:Gr W (W'.alloc (.cells #[.int .i64 i,.int .i64 k] 37)):=balloc HG.out _
      have hN':=HN.out.later hGO
      have hbx':=(Hbx.out.later hGO)
      have hvB:∀g,v.ownBlock=some g->w.heap.size<=g/\g<W2.heap.size:=λg hg=>HN2.out.own.lt g hg
      have hfin:∀W3:World,(W'.alloc (.cells #[.int .i64 i,.int .i64 k] 37)).grownBy W3 v.ownBlock->W3.cell? ⟨w.heap.size,0,none⟩=some (.pointer (some ⟨T,0,none⟩))/\W3.cell? ⟨w.heap.size+1,0,none⟩=some v/\W3.frozen? ⟨w.heap.size+1,0,none⟩=false/\
       W3.cell? ⟨Bx,0,none⟩=some (.int .i64 i)/\W3.cell? ⟨Bx,1,none⟩=some (.int .i64 k)/\Bx<W3.heap.size/\w.heap.size+1+1<W3.heap.size:=by
       intro W3 hg
       have q0:=hN'.b0.grown hg (hN'.b0.notRow hN'.own (by decide))
       have q1:=hN'.b1.grown hg (hN'.b1.notRow hN'.own (by decide))
       have q2:=hN'.b2.grown hg (hN'.b2.notRow hN'.own (by decide))
       have q3:=hbx'.grown hg (λe=>by have:=(hvB Bx e).2;rw[D3.out]at hBx;omega)
       exact⟨q0.cell 0,q1.cell 0,q1.frozen 0,q3.cell 0,q3.cell 1,q3.lt,q2.lt⟩
      have Hfin:=Lib.hid hfin
      have HN':=Lib.hid hN'
      have HvB:=Lib.hid hvB
      have HGO:=Lib.hid hGO
      obtain⟨i0,hi,hz0,hz1,hz2⟩:=info_parts info_sheet
      have hxl:xs.length<=24:=by
       have h1:=congrArg List.length Hxs.out
       have h2:=firstAt_len (L:=L) (F:=Fst fs L) (ks:=ks) (Bh:=Bh) L 0
       simp at h1
       omega
      have HW3:=Lib.hid hBx
      have hBx2:w.heap.size+1<Bx:=by have:=HN2.out.b2.lt;rw[D3.out]at hBx;omega
      clear hfin hN' hvB hGO hbx' hBx
      gi_wp2_with (gi_at_builtin;refine wpListIn_append_own _ rfl _ _ 30 rfl w.heap.size 37 i0 (.agg #[.int .i64 0,.int .i64 0]) 2 16 und_sheets hi hz0 hz1 hz2 rfl (by decide) v xs.length _ rfl HN'.out.own ⟨W'.heap.size,0,none⟩ 1 1 [.int .i64 i,.int .i64 k] rfl rfl (two_new _ _ _ _) (by simp[Value.oneCell']) (by simp only[maxLen];omega) (by omega) (by have:=HN'.out.bel.size;omega) ?_;intro v' W3 hown' hgr _;obtain⟨g',cap',rfl⟩:=own_succ hown';have e7:Bx≠w.heap.size+1:=(by omega);have e8:w.heap.size+1≠Bx:=(by omega);obtain⟨e0,e1,e2,e3,e4,e5,e6⟩:=Hfin.out W3 hgr)
      have hN4:FT w (W3.setCell ⟨w.heap.size+1,0,none⟩ (.slice (some ⟨g',0,none⟩) (xs.length+1) cap')) T i _ (xs++[⟨i,k⟩]):=HN'.out.grown ⟨i,k⟩ hgr hown'
      have hK4:KeepD w3 (W3.setCell ⟨w.heap.size+1,0,none⟩ (.slice (some ⟨g',0,none⟩) (xs.length+1) cap')):=((HKD.out.later HGO.out).own HN'.out.own hgr).set _ _
      have hF4:KeepsFrom w3.heap.size W (W3.setCell ⟨w.heap.size+1,0,none⟩ (.slice (some ⟨g',0,none⟩) (xs.length+1) cap')):=((KeepsFrom.later HGO.out).trans (KeepsFrom.of_grownBy hgr (λj hj=>by have:=(HvB.out j hj).2;rw[D3.out];omega))).trans (KeepsFrom.set _ _ _)
      generalize W3.setCell ⟨w.heap.size+1,0,none⟩ (.slice (some ⟨g',0,none⟩) (xs.length+1) cap')=W4 at*
      clear e0 e1 e2 e3 e4 e5 e6 hgr hown'
      refine⟨trivial,CallsIn.mono (CallsIn.inRound l (callsIn_wide.2 (HendW.out W4 (HT.out.later hN4.bel).core))) ?_⟩
      rintro e w1⟨rfl,hb1⟩
      have hN5:=hN4.later hb1
      have hf5:w1.frozen? ⟨w.heap.size+1+1,0,none⟩=false:=hN5.b2.frozen 0
      obtain⟨c0,c1,c2,hsz⟩:=hN5.cells
      have hN6:=hN5.set (i+wd)
      have hK6:=(hK4.later hb1).set ⟨w.heap.size+1+1,0,none⟩ (.int .i64 (i+wd:Nat))
      have hF6:=(hF4.trans (KeepsFrom.later hb1)).trans (KeepsFrom.set w1 ⟨w.heap.size+1+1,0,none⟩ (.int .i64 (i+wd:Nat)))
      rw[show((i+wd:Nat):Int)=(i:Int)+(wd:Int)from by omega]at hN6 hK6 hF6
      have HN6:=Lib.hid hN6
      have HK6:=Lib.hid hK6
      have HF6:=Lib.hid hF6
      clear hN4 hK4 hF4 hN5 hN6 hK6 hF6 hb1
      gi_wp2
      refine⟨HF6.out,pre,⟨k,hkc⟩,.slice (some ⟨g',0,none⟩) (xs.length+1) cap',rfl,rfl,Hpre.out,HtB.out,?_,HK6.out⟩
      have hw2:(ks.getD k ⟨0,0,0⟩).w.toNat=wd:=by rw[Hgd.out,Hwd.out];rfl
      rw[hw2]
      exact HN6.out
   case done=>
    intro D W5 hD hI5 hd
    obtain⟨hN5,hKD5,hno⟩:=hI5
    have hval:(kiTo L (Fst fs L) ks i ks.length).map Subtype.val=(List.range ks.length).filter (canI L (Fst fs L) ks i):=kiTo_val _ _ _ _ _
    have hfind:((List.range ks.length).filter (canI L (Fst fs L) ks i)).find? (tieB ks Bh i)=none:=by
     rw[<-hval,List.find?_eq_none]
     intro k hk
     obtain⟨z,hz,rfl⟩:=List.mem_map.1 hk
     rw[hno z hz];simp
    have hmk:Marks w.heap.size W5 (mark D::ds):=(HM.out.later Hb3.out).cons hD (by rw[D3.out];omega) hd (λk c _ hk=>hKD5 k c hk)
    have hx2:xs++firstAt L (Fst fs L) ks Bh (n-1) (i+1)=firstAt L (Fst fs L) ks Bh L 0:=by
     rw[<-Hxs.out]
     conv=>rhs;rw[show n=(n-1)+1 from by omega]
     rw[firstAt,if_pos hlt,hfind]
    obtain⟨c0,c1,c2,hsz⟩:=hN5.cells
    have hfz:W5.frozen? ⟨w.heap.size+1+1,0,none⟩=false:=hN5.b2.frozen _
    have hN6:FT w (W5.setCell ⟨w.heap.size+1+1,0,none⟩ (.int .i64 (i+1:Nat))) T (i+1) v xs:=hN5.set (i+1)
    have HN6:=Lib.hid hN6
    have Hmk:=Lib.hid (hmk.setCell ⟨w.heap.size+1+1,0,none⟩ (.int .i64 (i+1:Nat)))
    have Hx2:=Lib.hid hx2
    clear hN5 hKD5 hd hmk hval hfind hx2 hno hN6
    go_wp2
    refine hK _ _ (n-1) (by omega) ⟨i+1,v,xs,by omega,by omega,Hx2.out,?_,Hmk.out,HN6.out⟩
    repeat (first|exact fits_nil|refine fits_none ?_|refine fits_some ?_)
   case stop=>
    intro D c pre W5 hD hpre hI5 hd
    obtain⟨k0,hk0,hpk⟩:=hpre
    obtain⟨pre',x,v',rfl,hpx,hno,htx,hN5,hKD5⟩:=hI5
    have hval:(kiTo L (Fst fs L) ks i k0).map Subtype.val=(List.range k0).filter (canI L (Fst fs L) ks i):=kiTo_val _ _ _ _ _
    have hfind:((List.range ks.length).filter (canI L (Fst fs L) ks i)).find? (tieB ks Bh i)=some x.1:=by
     refine find_of_pre (pre:=pre'.map Subtype.val) hk0 ?_ ?_ htx
     ·rw[<-hval,<-hpk,hpx];simp
     ·intro y hy
      obtain⟨z,hz,rfl⟩:=List.mem_map.1 hy
      exact hno z hz
    have hmk:Marks w.heap.size W5 (mark D::ds):=(HM.out.later Hb3.out).cons hD (by rw[D3.out];omega) hd (λk c _ hk=>hKD5 k c hk)
    have hx2:(xs++[⟨i,x.1⟩])++firstAt L (Fst fs L) ks Bh (n-1) (i+(ks.getD x.1 ⟨0,0,0⟩).w.toNat)=firstAt L (Fst fs L) ks Bh L 0:=by
     rw[<-Hxs.out]
     conv=>rhs;rw[show n=(n-1)+1 from by omega]
     rw[firstAt,if_pos hlt,hfind]
     simp
    have hwb:1<=(ks.getD x.1 ⟨0,0,0⟩).w.toNat/\i+(ks.getD x.1 ⟨0,0,0⟩).w.toNat<=L:=by
     have hxc:=x.2
     unfold canI at hxc
     cases hy:ks[x.1]? with
     |none=>rw[hy]at hxc;cases hxc
     |some y=>
      rw[hy]at hxc
      have h1:=Hk.out.bd hy
      have h2:=(canB_iff.1 hxc).1
      simp only[List.getD,hy,Option.getD_some]
      omega
    have HN5:=Lib.hid hN5
    have Hmk:=Lib.hid hmk
    have Hx2:=Lib.hid hx2
    generalize (ks.getD x.1 ⟨0,0,0⟩).w.toNat=wx at*
    clear hN5 hKD5 hd hmk hval hfind hx2 hno hpx hpk
    go_wp2
    refine hK _ _ (n-1) (by omega) ⟨i+wx,v',_,by omega,by omega,Hx2.out,?_,Hmk.out,HN5.out⟩
    repeat (first|exact fits_nil|refine fits_none ?_|refine fits_some ?_)
  ·obtain rfl:L=i:=by omega
   have hx2:xs=firstAt L (Fst fs L) ks Bh L 0:=by
    rw[<-Hxs.out]
    cases n with
    |zero=>simp[firstAt]
    |succ n=>simp[firstAt]
   have Hx2:=Lib.hid hx2
   clear hx2 hK
   go_wp2_with fail
   refine postM_ret (B:=w.heap.size) (v:=v) HM.out (λW'=>results_tmp (t:=2) rfl _ _ _) (λW' hK=>?_)
   rw[<-Hx2.out]
   exact⟨v,rfl,(HN.out.kept hK (Nat.le_refl _)).bel,(HN.out.kept hK (Nat.le_refl _)).own⟩
end Go.Proofs.YtlclnbhjjdcnkaaGreatDoor.C
