/- steam's lists, from the beginning; the first one of the longest lists. -/
import Derived.Test.YtifehdoghfnhoaaGreatDoorZSThree
import Derived.Test.YtifehdoghfnhoaaGreatDoorZSPlan
import Derived.Laws.EntriesVeiled
namespace Go.Proofs.YtifehdoghfnhoaaGreatDoor
open Go.RowKit Go.Shelf
def loAt(rs:List Rg)(i:Nat):Int:=(rs.getD i ⟨0,0⟩).lo
def hiAt(rs:List Rg)(i:Nat):Int:=(rs.getD i ⟨0,0⟩).hi
theorem loAt_eq{rs:List Rg}{i:Nat}{x:Rg}(h:rs[i]? =some x):loAt rs i=x.lo:=by simp[loAt,List.getD,h]
theorem hiAt_eq{rs:List Rg}{i:Nat}{x:Rg}(h:rs[i]? =some x):hiAt rs i=x.hi:=by simp[hiAt,List.getD,h]
def RsOk(rs:List Rg):Prop:=rs.length<=10/\∀x∈rs,0<=x.lo/\x.lo<=x.hi/\x.hi<=100
theorem RsOk.at_{rs:List Rg}(h:RsOk rs){i:Nat}(hi:i<rs.length):0<=loAt rs i/\loAt rs i<=hiAt rs i/\hiAt rs i<=100:=by
 have hx:=List.getElem?_eq_getElem hi
 rw[loAt_eq hx,hiAt_eq hx]
 exact h.2 _ (List.getElem_mem hi)
structure FV(w W:World)(N g:Nat)(L:Int)(A:Option Addr)(n c:Nat):Prop where
 bel:Below N w W
 b0:Blk W N 72 #[.pointer (some ⟨g,0,none⟩)]
 v0:Blk W g 99 #[.int .i64 L,.slice A n c]
section
variable{w W W':World}{N g:Nat}{L:Int}{A:Option Addr}{n c:Nat}
theorem FV.later(h:FV w W N g L A n c)(hb:Below W.heap.size W W'):FV w W' N g L A n c:=
 ⟨h.bel.trans ⟨hb.os,hb.tape,hb.output,hb.size,λk hk=>by
   by_cases e:k<W.heap.size
   ·exact hb.block k e
   ·have:=h.b0.lt;omega⟩,h.b0.later hb,h.v0.later hb⟩
theorem FV.grown(h:FV w W N g L A n c){b:Nat}(hg:W.grownBy W' (some b))(hN:N<b)(hgb:g≠b):FV w W' N g L A n c:=
 ⟨h.bel.trans ⟨hg.os,hg.tape,hg.output,hg.size,λk hk=>hg.block k (by have:=h.b0.lt;omega) (λe=>by simp at e;omega)⟩,h.b0.grown hg (by simp;omega),h.v0.grown hg (by simp;omega)⟩
theorem FV.cells(h:FV w W N g L A n c):W.cell? ⟨N,0,none⟩=some (.pointer (some ⟨g,0,none⟩))/\W.cell? ⟨g,0,none⟩=some (.int .i64 L)/\W.cell? ⟨g,1,none⟩=some (.slice A n c)/\N<W.heap.size/\g<W.heap.size:=⟨h.b0.cell 0,h.v0.cell 0,h.v0.cell 1,h.b0.lt,h.v0.lt⟩
end
def cfR(rs:List Rg)(x y:Nat):Int:=hiAt rs x-hiAt rs y
set_option maxRecDepth 100000 in
set_option maxHeartbeats 4000000 in
theorem fillCmp_any{w W:World}{N g:Nat}{L:Int}{A:Option Addr}{c:Nat}{rs:List Rg}(hF:FV w W N g L A rs.length c)(hs:Sl 2 encR w w.heap.size A rs.length c rs)(hN:w.heap.size<=N)(hr:RsOk rs){x y:Nat}(hx:x<rs.length)(hy:y<rs.length):
 Calls Tryz.prog 45 #[.int .i64 (x:Int),.int .i64 (y:Int),.pointer (some ⟨N,0,none⟩)] W λe W'=>e=.returned (.int .i64 (cfR rs x y))/\Below W.heap.size W W':=by
 obtain⟨m0,m1,m2,ml,mg⟩:=hF.cells
 obtain⟨a0,a1,a2⟩:=hr.at_ hx
 obtain⟨b0,b1,b2⟩:=hr.at_ hy
 have hs2:=hs.later (hF.bel.mono hN)
 obtain⟨rb,ro,u,rfl,hrb,hu,_,g1⟩:=hs2.ltR hx
 obtain⟨rb2,ro2,u2,hA,hrb2,hu2,_,g3⟩:=hs2.ltR hy
 simp only[Option.some.injEq,Addr.mk.injEq,and_true]at hA
 obtain⟨rfl,rfl⟩:=hA
 unfold cfR
 rw[hiAt_eq hu]at a1 a2 ⊢
 rw[hiAt_eq hu2]at b1 b2 ⊢
 have i1:(x:Int)<(rs.length:Int):=by omega
 have i2:(0:Int)<=(x:Int):=by omega
 have i3:(y:Int)<(rs.length:Int):=by omega
 have i4:(0:Int)<=(y:Int):=by omega
 obtain⟨q,hq⟩:∃q,u.hi-u2.hi=q:=⟨_,rfl⟩
 have i5:IntKind.i64.wrap (u.hi-u2.hi)=q:=by rw[IntKind.wrap_i64];omega
 rw[hq]
 clear hs hs2 hF hu hu2 hr a0 a1 a2 b0 b1 b2 hq
 go_enter Tryz.func45,Tryz.ntmps45
 go_wp2_with fail
 refine dag 20 (by kernel_rfl) (by kernel_rfl) (.is ?_::.is ?_::.is ?_::.is ?_::.is ?_::.is ?_::.is ?_::.is ?_::.is ?_::.is ?_::.is ?_::.is ?_::.is ?_::.is ?_::.is ?_::.is ?_::.is ?_::.is ?_::.is ?_::.is ?_::[]) rfl ?st1 ?ob1
 case st1=>simp[Spec.ok]
 case ob1=>
  intro env W' hG
  obtain⟨hc,hf⟩:=bcell hG
  repeat (refine obI ?_ ?_;unfold dsA;go_simp;(try go_bits);(first|(refine⟨brefl _,?_⟩;rfl)|rfl);intro K hK;go_simp;refine hK _ ?_;clear hK K)
  refine obN (λ_=>?_)
  have HB:=Lib.hid hG
  clear hc hf hG
  go_wp2
  go_ret
  exact⟨rfl,HB.out⟩
theorem fillL_len{α:Type}(lo hi:α->Int)(L:Nat):∀(f:Nat)(l:List α),(Fill.fillL lo hi L f l).length<=f
 |0,l=>by unfold Fill.fillL;simp
 |f+1,[]=>by unfold Fill.fillL;simp
 |f+1,x::l=>by
  unfold Fill.fillL
  have:=fillL_len lo hi L f (Fill.takeL lo (hi x) L (x::l)).2
  simp only[List.length_cons];omega
structure F1(w W:World)(g:Nat)(L:Int)(A:Option Addr)(n c:Nat)(i:Nat)(v:Value):Prop where
 fv:FV w W w.heap.size g L A n c
 hrs:Blk W (w.heap.size+1) 2 (numArr n λ_=>0)
 lf:LeftV W (w.heap.size+1+1) (List.range i) v
theorem F1.later{w W W':World}{g:Nat}{L:Int}{A:Option Addr}{n c i:Nat}{v:Value}(h:F1 w W g L A n c i v)(hb:Below W.heap.size W W'):F1 w W' g L A n c i v:=⟨h.fv.later hb,h.hrs.later hb,h.lf.later hb⟩
theorem F1.own{w W W':World}{g:Nat}{L:Int}{A:Option Addr}{n c i:Nat}{v v':Value}(h:F1 w W g L A n c i v)(hW:w.heap.size+1+1<=W.heap.size)(hg:W.grownBy W' none)(ho:W'.ownsRow W.heap.size 3 1 v' (i+1) ((List.range i).map encN++[.int .i64 (i:Int)])):F1 w W' g L A n c (i+1) v':=by
 have hb:Below W.heap.size W W':=⟨hg.os,hg.tape,hg.output,hg.size,λk hk=>hg.block k hk (by simp)⟩
 refine⟨h.fv.later hb,h.hrs.later hb,LeftV.own (own_low ?_ hW)⟩
 have he:(List.range i).map encN++[.int .i64 (i:Int)]=(List.range (i+1)).map encN:=by rw[List.range_succ,List.map_append];rfl
 rw[he]at ho
 simpa using ho
def asg(ps:List (Nat×Int))(H:Nat->Int):Nat->Int:=ps.foldl (λH p=>updN H p.1 p.2) H
structure FillOk(rs:List Rg)(L:Nat)(l:List Nat)(ts:List Int)(H:Nat->Int):Prop where
 perm:l.Perm (List.range rs.length)
 srt:l.Pairwise λa b=>hiAt rs a<=hiAt rs b
 ts_eq:ts=Fill.fillL (loAt rs) (hiAt rs) L rs.length l
 hrs:H=asg (Fill.fillA (loAt rs) (hiAt rs) L rs.length l) (λ_=>0)
structure F2(w W:World)(g:Nat)(L:Int)(A:Option Addr)(n c:Nat)(H:Nat->Int)(tv:Value)(ts:List Int)(left:List Nat)(lv:Value):Prop where
 fv:FV w W w.heap.size g L A n c
 hrs:Blk W (w.heap.size+1) 2 (numArr n H)
 tv:W.ownsRow (w.heap.size+1+1) 2 1 tv ts.length (ts.map (.int .i64))
 lf:LeftV W (w.heap.size+1+1) left lv
section
variable{w W W':World}{g:Nat}{L:Int}{A:Option Addr}{n c:Nat}{H:Nat->Int}{tv:Value}{ts:List Int}{left:List Nat}{lv:Value}
theorem F2.later(h:F2 w W g L A n c H tv ts left lv)(hb:Below W.heap.size W W'):F2 w W' g L A n c H tv ts left lv:=⟨h.fv.later hb,h.hrs.later hb,owL h.tv hb,h.lf.later hb⟩
theorem F2.load(h:F2 w W g L A n c H tv ts left lv){tv':Value}{t:Int}(hgl:g<w.heap.size)(hg:W.grownBy W' tv.ownBlock)(ho:W'.ownsRow (w.heap.size+1+1) 2 1 tv' (ts.length+1) (ts.map (.int .i64)++[.int .i64 t])):F2 w W' g L A n c H tv' (ts++[t]) left lv:=by
 have hbs:=own_base h.tv
 have hne:∀b,b<w.heap.size+1+1->tv.ownBlock≠some b:=λb hb e=>by have:=hbs b e;omega
 refine⟨⟨h.fv.bel.trans ⟨hg.os,hg.tape,hg.output,hg.size,λk hk=>hg.block k (by have:=h.fv.b0.lt;omega) (λe=>hne k (by omega) e.symm)⟩,h.fv.b0.grown hg (hne _ (by omega)),h.fv.v0.grown hg (hne _ (by omega))⟩,h.hrs.grown hg (hne _ (by omega)),by simpa using ho,h.lf.grown hg (λb hb e=>?_)⟩
 rcases h.lf with⟨_,rfl⟩|⟨gl,cap,tail,rfl,_,hbl⟩
 ·cases hb
 ·simp only[Value.ownBlock,Option.some.injEq]at hb
  subst hb
  exact hbl.notRow h.tv (by decide) e
theorem F2.next(h:F2 w W g L A n c H tv ts left lv){nv:Value}{B1:Nat}(hgl:g<w.heap.size)(hB1:w.heap.size+1+1<=B1)(ht:∀b,tv.ownBlock=some b->b<B1)(hl:∀b,lv.ownBlock=some b->b<B1)(hnb:∀b,nv.ownBlock=some b->B1<=b)(hg:W.grownBy W' nv.ownBlock):F2 w W' g L A n c H tv ts left lv:=by
 have hne:∀b,b<B1->nv.ownBlock≠some b:=λb hb e=>by have:=hnb b e;omega
 exact⟨⟨h.fv.bel.trans ⟨hg.os,hg.tape,hg.output,hg.size,λk hk=>hg.block k (by have:=h.fv.b0.lt;omega) (λe=>hne k (by omega) e.symm)⟩,h.fv.b0.grown hg (hne _ (by omega)),h.fv.v0.grown hg (hne _ (by omega))⟩,h.hrs.grown hg (hne _ (by omega)),own_grown h.tv hg (λb hb=>hne b (ht b hb)),h.lf.grown hg (λb hb=>hne b (hl b hb))⟩
theorem F2.put(h:F2 w W g L A n c H tv ts left lv)(hgl:g<w.heap.size)(x:Nat)(t:Int):F2 w (W.setCell ⟨w.heap.size+1,x,none⟩ (.int .i64 t)) g L A n c (updN H x t) tv ts left lv:=by
 have hlb:∀b,lv.ownBlock=some b->b≠w.heap.size+1:=λb hb=>by
  rcases h.lf with⟨_,rfl⟩|⟨gl,cap,tail,rfl,h1,hbl⟩
  ·cases hb
  ·simp only[Value.ownBlock,Option.some.injEq]at hb;omega
 refine⟨⟨h.fv.bel.setCell (by show w.heap.size<=w.heap.size+1;omega) _,h.fv.b0.other (by show w.heap.size+1≠_;omega) _,h.fv.v0.other (by show w.heap.size+1≠_;omega) _⟩,by have h1:=h.hrs.set x (.int .i64 t);rwa[numArr_set]at h1,own_other h.tv _ (λe=>by have:=own_base h.tv _ e;simp at this;omega) _,?_⟩
 rcases h.lf with h1|⟨gl,cap,tail,rfl,h1,hbl⟩
 ·exact .inl h1
 ·exact .inr ⟨gl,cap,tail,rfl,h1,hbl.other (by show w.heap.size+1≠gl;omega) _⟩
end
theorem F1.sorted{w W W':World}{g:Nat}{L:Int}{A:Option Addr}{n c:Nat}{g0 cap:Nat}{l:List Nat}{tail:List Value}(h:F1 w W g L A n c n (.slice (some ⟨g0,0,none⟩) n cap))(hgl:g<w.heap.size)(hg0:w.heap.size+1+1<=g0)(hc:n<=cap)(hl:l.length=n)(hS:SR W W' g0 l tail):F2 w W' g L A n c (λ_=>0) (.slice none 0 0) [] l (.slice (some ⟨g0,0,none⟩) n cap):=
 ⟨h.fv.grown hS.gr (by omega) (by omega),h.hrs.grown hS.gr (by simp;omega),World.ownsRow_nil _ _ _ _,.inr ⟨g0,cap,tail,by rw[hl],⟨hg0,by omega⟩,hS.blk⟩⟩
set_option maxRecDepth 100000 in
set_option maxHeartbeats 8000000 in
theorem fill_any(g:Nat)(L:Nat)(A:Option Addr)(c:Nat)(rs:List Rg)(w:World)(hv:Blk w g 99 #[.int .i64 (L:Int),.slice A rs.length c])(hs:Sl 2 encR w w.heap.size A rs.length c rs)(hr:RsOk rs)(hL:1<=L/\L<=10):
 Calls Tryz.prog 27 #[.pointer (some ⟨g,0,none⟩)] w λe w'=>∃v l ts H,e=.returned (.tuple #[v,.slice (some ⟨w.heap.size+1,0,none⟩) rs.length rs.length])/\Below w.heap.size w w'/\FillOk rs L l ts H/\w'.ownsRow w.heap.size 2 1 v ts.length (ts.map (.int .i64))/\Blk w' (w.heap.size+1) 2 (numArr rs.length H):=by
 have hn:=hr.1
 have hmk:=λW:World=>make_longs rs.length (by omega) W
 have hgl:=hv.lt
 have hb1:=Blk.new (w.alloc (.cells #[.pointer (some ⟨g,0,none⟩)] 72)) 2 (numArr rs.length λ_=>0)
 rw[World.size_alloc]at hb1
 have hF1:F1 w ((w.alloc (.cells #[.pointer (some ⟨g,0,none⟩)] 72)).alloc (.cells (numArr rs.length λ_=>0) 2)) g L A rs.length c 0 (.slice none 0 0):=⟨⟨balloc (balloc (brefl w) _) _,(Blk.new w _ _).alloc _,(hv.alloc _).alloc _⟩,hb1,.inl ⟨rfl,rfl⟩⟩
 have HF1:=Lib.hid hF1
 have Hs:=Lib.hid hs
 have Hr:=Lib.hid hr
 have v0:=hv.cell 0
 have v1:=hv.cell 1
 clear hb1 hF1 hs hr hv
 obtain⟨n,hnn⟩:∃n,rs.length=n:=⟨_,rfl⟩
 rw[hnn]at hn hmk HF1 Hs v1 ⊢
 have Hn:=Lib.hid hnn
 clear hnn
 go_enter Tryz.func27,Tryz.ntmps27
 go_wp2_with fail
 generalize (w.alloc (.cells #[.pointer (some ⟨g,0,none⟩)] 72)).alloc (.cells (numArr n λ_=>0) 2)=W0 at*
 clear v0 v1 hmk
 refine lpn (λm a W=>a.defers=[]/\∃(i:Nat)(v:Value),i+m=n/\F1 w W g L A n c i v/\Fits (none::some (.pointer (some ⟨w.heap.size,0,none⟩))::none::none::some (.slice none 0 0)::some (.slice (some ⟨w.heap.size+1,0,none⟩) n n)::some (v)::none::none::none::none::none::none::none::none::none::none::none::none::none::none::none::none::none::none::some (.int .i64 (n:Int))::some (.int .i64 (i:Nat))::none::none::none::none::none::none::none::none::none::none::none::none::none::none::none::none::none::none::none::none::none::none::none::none::none::none::none::none::none::none::none::none::none::none::none::none::none::none::none::none::none::none::none::none::none::none::none::none::none::none::none::none::none::none::none::none::none::none::none::none::none::none::none::none::none::none::none::none::none::none::none::none::none::[]) a.tmps.toList) n ?_ ?_
 ·refine⟨rfl,0,_,by omega,HF1.out,?_⟩
  repeat (first|exact ftL|refine ftN ?_|refine ftS ?_)
 clear HF1
 clear W0
 intro m a W hI K hK
 obtain⟨hds,i,v,him,hF,hfit⟩:=hI
 obtain⟨f,hf⟩:=ftA hfit
 rw[hds]at hf
 subst hf
 clear hfit hds
 simp only[fillP,Nat.reduceAdd]
 by_cases hlt:i<n
 ·have i1:(i:Int)<(n:Int):=by omega
  have i2:(0:Int)<=(i:Int):=by omega
  have i3:IntKind.i64.wrap ((i:Int)+1)=(i:Int)+1:=by rw[IntKind.wrap_i64];omega
  rcases hF.lf with⟨h0,rfl⟩|⟨g0,cap,tail,rfl,⟨hg0,hic⟩,hblk2⟩
  ·obtain rfl:i=0:=by simpa using h0
   have Hold:=Lib.hid (show∀W2,Below W.heap.size W W2->∀b,(none:Option Addr)=some b->∀j u,((List.range 0).map encN)[j]? =some u->W2.cell? (b.add j)=some u fromλ_ _ b h=>by cases h)
   obtain⟨i0,hi0,hz0,hz1,hz2⟩:=info_parts info_int
   have hF2:=hF.later (balloc (brefl W) (.cells #[.int .i64 0] 3))
   have zW:=hF.hrs.lt
   have HF2:=Lib.hid hF2
   clear hF hF2
   go_wp2_with (at_builtin;refine wpList_append_grows _ rfl _ _ 43 rfl 3 i0 (.int .i64 0) 1 8 und_ints hi0 hz0 hz1 hz2 rfl (by decide) _ 0 0 ((List.range 0).map encN) rfl (by simp) (by simp) (Hold.out _ (balloc (brefl W) (.cells #[.int .i64 0] 3))) ⟨W.heap.size,0,none⟩ 1 1 [.int .i64 0] rfl rfl (one_new _ _ _) (by simp[Value.oneCell']) (by omega) (by simp only[maxLen];omega) (by omega) ?_;intro v' W3 hown' hgr;have HF3:=Lib.hid (HF2.out.own (by simp;omega) hgr hown');clear hown' hgr)
   refine hK _ _ (m-1) (by omega) ⟨rfl,0+1,v',by omega,HF3.out,?_⟩
   repeat (first|exact ftL|refine ftN ?_|refine ftS ?_)
  ·rw[List.length_range]at hF hic ⊢
   have i5:(i:Int)<=(cap:Int):=by omega
   have Hold:=Lib.hid (show∀W2,Below W.heap.size W W2->∀b,(some ⟨g0,0,none⟩:Option Addr)=some b->∀j u,((List.range i).map encN)[j]? =some u->W2.cell? (b.add j)=some u fromλW2 hb b h j u hu=>by
    cases h
    have hadd:(⟨g0,0,none⟩:Addr).add j=⟨g0,j,none⟩:=by unfold Addr.add;split<;>simp_all
    rw[hadd,(hblk2.later hb).cell]
    obtain⟨x,hx,rfl⟩:=List.getElem?_map .. ▸hu |> Option.map_eq_some_iff.1
    exact lArr_get hx)
   obtain⟨i0,hi0,hz0,hz1,hz2⟩:=info_parts info_int
   have hF2:=hF.later (balloc (brefl W) (.cells #[.int .i64 i] 3))
   have zW:=hF.hrs.lt
   have HF2:=Lib.hid hF2
   clear hF hF2 hblk2
   go_wp2_with (at_builtin;refine wpList_append_grows _ rfl _ _ 43 rfl 3 i0 (.int .i64 0) 1 8 und_ints hi0 hz0 hz1 hz2 rfl (by decide) _ i i ((List.range i).map encN) rfl (by simp) (by simp) (Hold.out _ (balloc (brefl W) (.cells #[.int .i64 i] 3))) ⟨W.heap.size,0,none⟩ 1 1 [.int .i64 (i:Int)] rfl rfl (one_new _ _ _) (by simp[Value.oneCell']) (by omega) (by simp only[maxLen];omega) (by omega) ?_;intro v' W3 hown' hgr;have HF3:=Lib.hid (HF2.out.own (by simp;omega) hgr hown');clear hown' hgr)
   refine hK _ _ (m-1) (by omega) ⟨rfl,i+1,v',by omega,HF3.out,?_⟩
   repeat (first|exact ftL|refine ftN ?_|refine ftS ?_)
 ·obtain rfl:i=n:=by omega
  clear hK
  rcases hF.lf with⟨h0,rfl⟩|⟨g0,cap,tail,rfl,⟨hg0,hic⟩,hblk2⟩
  ·obtain rfl:i=0:=by simpa using h0
   have HF:=Lib.hid hF
   clear hF h0
   go_wp2_with fail
   refine(sortStable_nil _ _).mono ?_
   rintro e w1⟨rfl,hb1⟩
   have HF1:=Lib.hid (HF.out.later hb1)
   clear hb1 HF
   go_wp2_with fail
   refine wp_loop_rounds 1 ?_
   rw[rounds_succ]
   go_wp2
   go_ret2
   refine⟨_,[],[],λ_=>0,rfl,HF1.out.fv.bel,⟨?_,List.Pairwise.nil,?_,?_⟩,World.ownsRow_nil _ _ _ _,HF1.out.hrs⟩
   ·rw[Hn.out];exact List.Perm.refl _
   ·rw[Hn.out];rfl
   ·rw[Hn.out];rfl
  ·rw[List.length_range]at hF hic ⊢
   have hsort:=sortStable_any 45 #[.pointer (some ⟨w.heap.size,0,none⟩)] (enters_of Tryz.func45 (by kernel_rfl) rfl) (cfR rs) g0 cap (List.range i) tail W hblk2 (by rw[List.length_range];omega) (λx y z h1 h2=>by unfold cfR at*;omega) (λx y h=>by unfold cfR at*;omega) (λx y W' hx hy hg=>by
    have h1:=hF.fv.grown hg (by omega) (by omega)
    rw[<-Hn.out]at h1
    exact fillCmp_any h1 (by rw[Hn.out];exact Hs.out) (Nat.le_refl _) Hr.out (by rw[Hn.out];exact List.mem_range.1 hx) (by rw[Hn.out];exact List.mem_range.1 hy))
   rw[List.length_range]at hsort
   have HSo:=Lib.hid hsort
   have HF:=Lib.hid hF
   clear hF hsort hblk2
   go_wp2_with fail
   refine HSo.out.mono ?_
   rintro e w1⟨rfl,l,hperm,hsrt,hS⟩
   have hll:l.length=i:=by rw[hperm.length_eq,List.length_range]
   have HF2:=Lib.hid (HF.out.sorted hgl hg0 hic hll hS)
   have Hp:=Lib.hid hperm
   have Hmem:=Lib.hid (show∀x∈l,x<rs.length fromλx hx=>by rw[Hn.out];exact List.mem_range.1 (hperm.mem_iff.1 hx))
   have Hsr:=Lib.hid (show l.Pairwise λa b=>hiAt rs a<=hiAt rs b from List.pairwise_iff_getElem.2 λp q hp hq hpq=>by
    have:=hsrt p q _ _ hpq hq (List.getElem?_eq_getElem hp) (List.getElem?_eq_getElem hq)
    unfold cfR at this;omega)
   have Hll:=Lib.hid hll
   obtain⟨T,hT⟩:∃T,Fill.fillL (loAt rs) (hiAt rs) L i l=T:=⟨_,rfl⟩
   obtain⟨HT,hHT⟩:∃HT,asg (Fill.fillA (loAt rs) (hiAt rs) L i l) (λ_=>0)=HT:=⟨_,rfl⟩
   have HTe:=Lib.hid hT
   have HHT:=Lib.hid hHT
   clear hperm hsrt hS hll hT hHT HF HSo
   clear W
   go_wp2_with fail
   refine lpn (λm a W=>a.defers=[]/\∃(left:List Nat)(lv:Value)(ts:List Int)(tv:Value)(H:Nat->Int),left.length<=m/\Hid (left.Sublist l)/\Hid (ts++Fill.fillL (loAt rs) (hiAt rs) L m left=T)/\Hid (asg (Fill.fillA (loAt rs) (hiAt rs) L m left) H=HT)/\F2 w W g L A i c H tv ts left lv/\Fits (none::some (.pointer (some ⟨w.heap.size,0,none⟩))::none::none::some (tv)::some (.slice (some ⟨w.heap.size+1,0,none⟩) i i)::some (lv)::none::none::none::none::none::none::none::none::none::none::none::none::none::none::none::none::none::none::none::none::none::none::none::none::none::none::none::none::none::none::none::none::none::none::none::none::none::none::none::none::none::none::none::none::none::none::none::none::none::none::none::none::none::none::none::none::none::none::none::none::none::none::none::none::none::none::none::none::none::none::none::none::none::none::none::none::none::none::none::none::none::none::none::none::none::none::none::none::none::none::none::none::none::[]) a.tmps.toList) i ?_ ?_
   ·refine⟨rfl,l,_,[],_,_,by rw[Hll.out];omega,Lib.hid (List.Sublist.refl _),Lib.hid (by rw[HTe.out];rfl),Lib.hid HHT.out,HF2.out,?_⟩
    repeat (first|exact ftL|refine ftN ?_|refine ftS ?_)
   clear HF2
   clear w1
   intro m a W hI K hK
   obtain⟨hds,left,lv,ts,tv,H,hlm,hsub,hTs,hAs,hF,hfit⟩:=hI
   obtain⟨f,hf⟩:=ftA hfit
   rw[hds]at hf
   subst hf
   clear hfit hds
   simp only[fillP,Nat.reduceAdd]
   have HF:=Lib.hid hF
   cases left with
   |nil=>
    have hlv:∃ao cap,lv=.slice ao 0 cap:=by
     rcases hF.lf with⟨_,rfl⟩|⟨gl,cap,tail,rfl,_⟩
     ·exact⟨_,_,rfl⟩
     ·exact⟨_,_,rfl⟩
    obtain⟨ao,cap2,rfl⟩:=hlv
    have hT:ts=T:=by have h1:=hTs.out;unfold Fill.fillL at h1;cases m<;>simpa using h1
    have hH:H=HT:=by have h1:=hAs.out;unfold Fill.fillA at h1;cases m<;>exact h1
    subst hT hH
    clear hK hF hTs hAs hsub hlm
    go_wp2
    go_ret2
    refine⟨_,l,ts,H,rfl,HF.out.fv.bel,⟨?_,Hsr.out,?_,?_⟩,own_low HF.out.tv (by omega),HF.out.hrs⟩
    ·rw[Hn.out];exact Hp.out
    ·rw[Hn.out,HTe.out]
    ·rw[Hn.out,HHT.out]
   |cons x l2=>
    obtain⟨gl,cap2,x',rfl,hgl2,hglW,hx',hcx⟩:=hF.lf.at_ (i:=0) (by simp)
    obtain rfl:x=x':=by simpa using hx'
    have hxn:x<rs.length:=Hmem.out x (hsub.out.subset (by simp))
    obtain⟨a0,a1,a2⟩:=Hr.out.at_ hxn
    have hs2:=Hs.out.later hF.fv.bel
    rw[<-Hn.out]at hs2
    obtain⟨rb,ro,u,rfl,hrb,hu,gx0,gx1⟩:=hs2.ltR hxn
    obtain⟨t,ht⟩:∃t,hiAt rs x=t:=⟨_,rfl⟩
    have hut:u.hi=t:=by rw[<-hiAt_eq hu];exact ht
    rw[hut]at gx1
    rw[ht]at a1 a2
    obtain⟨m',rfl⟩:∃m',m=m'+1:=⟨m-1,by simp at hlm;omega⟩
    have hlm':l2.length<=m':=by simpa using hlm
    have hst:Fill.fillL (loAt rs) (hiAt rs) L (m'+1) (x::l2)=t::Fill.fillL (loAt rs) (hiAt rs) L m' (Fill.takeL (loAt rs) t L (x::l2)).2:=by rw[<-ht];rfl
    have hsa:Fill.fillA (loAt rs) (hiAt rs) L (m'+1) (x::l2)=(Fill.takeL (loAt rs) t L (x::l2)).1.map (λy=>(y,t))++Fill.fillA (loAt rs) (hiAt rs) L m' (Fill.takeL (loAt rs) t L (x::l2)).2:=by rw[<-ht];rfl
    have hshort:(Fill.takeL (loAt rs) t L (x::l2)).2.length<=m':=by
     obtain⟨L',rfl⟩:∃L',L=L'+1:=⟨L-1,by omega⟩
     have h1:(Fill.takeL (loAt rs) t (L'+1) (x::l2)).2=(Fill.takeL (loAt rs) t L' l2).2:=by
      conv=>lhs;unfold Fill.takeL
      rw[if_neg (by omega)]
     rw[h1]
     exact Nat.le_trans (Fill.takeL_sub (loAt rs) t l2 L').length_le hlm'
    have HTs:=Lib.hid hTs.out
    have HAs:=Lib.hid hAs.out
    rw[hst]at HTs
    rw[hsa]at HAs
    have Hshort:=Lib.hid hshort
    have Hsub:=Lib.hid (show∀y∈x::l2,y<rs.length fromλy hy=>Hmem.out y (hsub.out.subset hy))
    have Hsub2:=Lib.hid (show(Fill.takeL (loAt rs) t L (x::l2)).2.Sublist l from(Fill.takeL_sub (loAt rs) t (x::l2) L).trans hsub.out)
    have hlen2:(x::l2).length<=i:=by have:=hsub.out.length_le;rw[Hll.out]at this;exact this
    obtain⟨ll,hll⟩:∃ll,x::l2=ll:=⟨_,rfl⟩
    rw[hll]at hF HF HTs HAs Hshort Hsub Hsub2 hlen2 ⊢
    have hl0:0<ll.length:=by rw[<-hll];simp
    have hl0':(0:Int)<(ll.length:Int):=by omega
    have i1:(x:Int)<(i:Int):=by rw[<-Hn.out];omega
    have i2:(0:Int)<=(x:Int):=by omega
    obtain⟨m0,m1,m2,ml,mg⟩:=hF.fv.cells
    have HF0:=Lib.hid hF
    clear hF HF hTs hAs hsub hlm hlm' hst hsa hshort hx' hxn hs2 hu hut ht a0 a1 gx0 hll
    clear l2
    go_wp2_with fail
    refine wp_scope_straight ?_
    go_wp2_with fail
    refine dag 12 (by kernel_rfl) (by kernel_rfl) (.is ?_::.is ?_::.is ?_::.is ?_::.is ?_::.is ?_::.is ?_::.is ?_::.is ?_::.is ?_::.is ?_::.is ?_::[]) rfl ?st1 ?ob1
    case st1=>simp[Spec.ok]
    case ob1=>
     intro env W' hG
     obtain⟨hc,hf⟩:=bcell hG
     repeat (refine obI ?_ ?_;unfold dsA;go_simp;(try go_bits);(first|(refine⟨brefl _,?_⟩;rfl)|rfl);intro K hK;go_simp;refine hK _ ?_;clear hK K)
     refine obN (λ_=>?_)
     have hF:=HF0.out.later hG
     have HF1:=Lib.hid (hF.later (balloc (brefl W') (.cells #[.int .i64 t] 2)))
     have htl:ts.length<=i:=by
      have h1:=congrArg List.length HTs.out
      have h2:=fillL_len (loAt rs) (hiAt rs) L i l
      rw[HTe.out]at h2
      rw[List.length_append]at h1
      omega
     obtain⟨i0,hi0,hz0,hz1,hz2⟩:=info_parts info_long
     clear hc hf hG hF m0 m1 m2 ml mg hcx gx1
     clear HF0
     go_wp2_with (at_builtin;refine wpList_append_own _ rfl _ _ 40 rfl (w.heap.size+1+1) 2 i0 (.int .i64 0) 1 8 und_longs hi0 hz0 hz1 hz2 rfl (by decide) tv ts.length _ rfl HF1.out.tv ⟨W'.heap.size,0,none⟩ 1 1 [.int .i64 t] rfl rfl (one_new _ _ _) (by simp[Value.oneCell']) (by simp only[maxLen];omega) (by omega) (by have:=HF1.out.hrs.lt;omega) ?_;intro tv' W3 hown' hgr _;have HF3:=Lib.hid (HF1.out.load hgl hgr hown');have Htv:=Lib.hid (own_lt hown');obtain⟨m0,m1,m2,ml,mg⟩:=HF3.out.fv.cells;clear hown' hgr)
     refine wp_label ?_
     go_wp2_with fail
     have HB1:=Lib.hid (show w.heap.size+1+1<=W3.heap.size/\(∀b,tv'.ownBlock=some b->b<W3.heap.size)/\(∀b,(Value.slice (some ⟨gl,0,none⟩) ll.length cap2).ownBlock=some b->b<W3.heap.size)from by
      refine⟨by have:=HF3.out.hrs.lt;omega,Htv.out,λb hb=>?_⟩
      rcases HF3.out.lf with⟨h0,_⟩|⟨gl',cap',tail',he,_,hbl⟩
      ·rw[h0]at hl0;simp at hl0
      ·simp only[Value.slice.injEq,Option.some.injEq,Addr.mk.injEq,and_true,true_and]at he
       simp only[Value.ownBlock,Option.some.injEq]at hb
       have:=hbl.lt
       omega)
     obtain⟨B1,hB1⟩:∃B1,W3.heap.size=B1:=⟨_,rfl⟩
     rw[hB1]at HB1
     have HZ:=Lib.hid hB1
     obtain⟨NX,hNX⟩:∃NX,(Fill.takeL (loAt rs) t L ll).2=NX:=⟨_,rfl⟩
     obtain⟨HX,hHX⟩:∃HX,asg ((Fill.takeL (loAt rs) t L ll).1.map λy=>(y,t)) H=HX:=⟨_,rfl⟩
     rw[hNX]at HTs HAs Hshort Hsub2
     have HAs2:=Lib.hid (show asg (Fill.fillA (loAt rs) (hiAt rs) L m' NX) HX=HT by rw[<-hHX,<-HAs.out];unfold asg;rw[List.foldl_append])
     have HNX:=Lib.hid hNX
     have HHX:=Lib.hid hHX
     clear hB1 hNX hHX HF1 HAs m0 m1 m2 ml mg
     clear hi0 hz0 hz1 hz2 i0
     refine lpn (λr a W=>a.defers=[]/\∃(k:Nat)(rm:Nat)(nx:List Nat)(nv:Value)(H':Nat->Int),k+r=ll.length/\rm<=L/\nx.length<=k/\Hid (nx++(Fill.takeL (loAt rs) t rm (ll.drop k)).2=NX)/\Hid (asg ((Fill.takeL (loAt rs) t rm (ll.drop k)).1.map λy=>(y,t)) H'=HX)/\F2 w W g L (some ⟨rb,ro,none⟩) i c H' tv' (ts++[t]) ll (.slice (some ⟨gl,0,none⟩) ll.length cap2)/\W.ownsRow B1 3 1 nv nx.length (nx.map encN)/\B1<=W.heap.size/\Fits (none::some (.pointer (some ⟨w.heap.size,0,none⟩))::none::none::some (tv')::some (.slice (some ⟨w.heap.size+1,0,none⟩) i i)::none::none::some (.int .i64 t)::some (nv)::some (.int .i64 (rm:Nat))::none::none::none::none::none::none::none::none::none::none::none::none::none::none::none::none::none::none::none::none::none::none::none::none::none::none::none::none::none::none::none::none::none::none::none::none::none::none::none::none::none::none::none::none::none::none::none::none::none::none::none::none::none::none::some (.slice (some ⟨gl,0,none⟩) ll.length cap2)::some (.int .i64 (ll.length:Nat))::some (.int .i64 (k:Nat))::none::none::none::none::none::none::none::none::none::none::none::none::none::none::none::none::none::none::none::none::none::none::none::none::none::none::none::none::none::none::none::none::[]) a.tmps.toList) ll.length ?_ ?_
     ·refine⟨rfl,0,L,[],_,H,by omega,Nat.le_refl _,by simp,Lib.hid (by simpa using HNX.out),Lib.hid (by simpa using HHX.out),HF3.out,World.ownsRow_nil _ _ _ _,Nat.le_of_eq HZ.out.symm,?_⟩
      repeat (first|exact ftL|refine ftN ?_|refine ftS ?_)
     clear HF3 HZ HNX HHX Htv
     clear W3
     intro r a W hI K2 hK2
     obtain⟨hds,k,rm,nx,nv,H',hkr,hrm,hnxk,hNx,hHx,hF,hnv,hBW,hfit⟩:=hI
     obtain⟨f,hf⟩:=ftA hfit
     rw[hds]at hf
     subst hf
     clear hfit hds
     simp only[fillP,Nat.reduceAdd]
     have HF:=Lib.hid hF
     have Hnv:=Lib.hid hnv
     by_cases hlt:k<ll.length
     ·obtain⟨gl',cap',y,he,_,hglW,hy,hcy⟩:=hF.lf.at_ hlt
      simp only[Value.slice.injEq,Option.some.injEq,Addr.mk.injEq,and_true,true_and]at he
      obtain⟨rfl,rfl⟩:=he
      have hyn:y<rs.length:=Hsub.out y (List.mem_of_getElem? hy)
      have hdr:ll.drop k=y::ll.drop (k+1):=by
       obtain⟨h1,h2⟩:=List.getElem?_eq_some_iff.1 hy
       rw[List.drop_eq_getElem_cons h1,h2]
      rw[hdr]at hNx hHx
      have hs2:=Hs.out.later hF.fv.bel
      rw[<-Hn.out]at hs2
      obtain⟨rb',ro',u,hA,hrb,hu,gx0,gx1⟩:=hs2.ltR hyn
      simp only[Option.some.injEq,Addr.mk.injEq,and_true]at hA
      obtain⟨rfl,rfl⟩:=hA
      have hlo:=loAt_eq hu
      obtain⟨m0,m1,m2,ml,mg⟩:=hF.fv.cells
      have j1:(k:Int)<(ll.length:Int):=by omega
      have j2:(0:Int)<=(k:Int):=by omega
      have j3:IntKind.i64.wrap ((k:Int)+1)=(k:Int)+1:=by rw[IntKind.wrap_i64];omega
      have j4:(y:Int)<(i:Int):=by rw[<-Hn.out];omega
      have j5:(0:Int)<=(y:Int):=by omega
      have hh0:=hF.hrs.lt
      have hh1:=hF.hrs.frozen y
      have hh2:=(hF.hrs.cell y).trans (numArr_get (by rw[<-Hn.out];exact hyn))
      cases rm with
      |zero=>
       have hNy:=Lib.hid (show(nx++[y])++(Fill.takeL (loAt rs) t 0 (ll.drop (k+1))).2=NX by rw[<-hNx.out,Fill.takeL_zero,Fill.takeL_zero];simp)
       have hHy:=Lib.hid (show asg ((Fill.takeL (loAt rs) t 0 (ll.drop (k+1))).1.map λy=>(y,t)) H'=HX by rw[<-hHx.out,Fill.takeL_zero,Fill.takeL_zero])
       clear hNx hHx hy hdr hs2 hu hlo
       obtain⟨i0,hi0,hz0,hz1,hz2⟩:=info_parts info_int
       have HFa:=Lib.hid (HF.out.later (balloc (brefl W) (.cells #[.int .i64 (y:Int)] 3)))
       have Hna:=Lib.hid (owL Hnv.out (balloc (brefl W) (.cells #[.int .i64 (y:Int)] 3)))
       have Hfin:=Lib.hid (λ(nv':Value)(W3:World)(ho:W3.ownsRow B1 3 1 nv' (nx.length+1) (nx.map encN++[.int .i64 (y:Int)]))(hg:(W.alloc (.cells #[.int .i64 (y:Int)] 3)).grownBy W3 nv.ownBlock)=>(⟨HFa.out.next hgl HB1.out.1 HB1.out.2.1 HB1.out.2.2 (own_base Hna.out) hg,by have h:=ho;rw[show nx.map encN++[.int .i64 (y:Int)]=(nx++[y]).map encN by rw[List.map_append];rfl]at h;simpa using h,by have:=hg.size;simp at this;omega⟩:F2 w W3 g L (some ⟨rb,ro,none⟩) i c H' tv' (ts++[t]) ll (.slice (some ⟨gl,0,none⟩) ll.length cap2)/\W3.ownsRow B1 3 1 nv' (nx++[y]).length ((nx++[y]).map encN)/\B1<=W3.heap.size))
       clear hF hnv HF Hnv
       go_wp2_with (at_builtin;refine wpList_append_own _ rfl _ _ 43 rfl B1 3 i0 (.int .i64 0) 1 8 und_ints hi0 hz0 hz1 hz2 rfl (by decide) nv nx.length _ rfl Hna.out ⟨W.heap.size,0,none⟩ 1 1 [.int .i64 (y:Int)] rfl rfl (one_new _ _ _) (by simp[Value.oneCell']) (by simp only[maxLen];omega) (by omega) (by simp;omega) ?_;intro nv' W3 hown' hgr _;have Hn3:=Lib.hid (Hfin.out nv' W3 hown' hgr);clear hown' hgr)
       refine hK2 _ _ (r-1) (by omega) ⟨rfl,k+1,0,nx++[y],nv',H',by omega,by omega,by simpa using hnxk,Lib.hid hNy.out,Lib.hid hHy.out,Hn3.out.1,Hn3.out.2.1,Hn3.out.2.2,?_⟩
       repeat (first|exact ftL|refine ftN ?_|refine ftS ?_)
      |succ rm=>
       have j6:¬((rm:Int)+1=0):=by omega
       have j7:(((rm:Int)+1)==0)=false:=by simpa using j6
       cases hd:decide (t<u.lo)with
       |true=>
        have hd':t<u.lo:=of_decide_eq_true hd
        have hNy:=Lib.hid (show(nx++[y])++(Fill.takeL (loAt rs) t (rm+1) (ll.drop (k+1))).2=NX by
         rw[<-hNx.out]
         conv=>rhs;unfold Fill.takeL
         rw[if_pos (by rw[hlo];exact hd')];simp)
        have hHy:=Lib.hid (show asg ((Fill.takeL (loAt rs) t (rm+1) (ll.drop (k+1))).1.map λy=>(y,t)) H'=HX by
         rw[<-hHx.out]
         conv=>rhs;unfold Fill.takeL
         rw[if_pos (by rw[hlo];exact hd')])
        clear hNx hHx hy hdr hs2 hu hlo hd'
        obtain⟨i0,hi0,hz0,hz1,hz2⟩:=info_parts info_int
        have HFa:=Lib.hid (HF.out.later (balloc (brefl W) (.cells #[.int .i64 (y:Int)] 3)))
        have Hna:=Lib.hid (owL Hnv.out (balloc (brefl W) (.cells #[.int .i64 (y:Int)] 3)))
        have Hfin:=Lib.hid (λ(nv':Value)(W3:World)(ho:W3.ownsRow B1 3 1 nv' (nx.length+1) (nx.map encN++[.int .i64 (y:Int)]))(hg:(W.alloc (.cells #[.int .i64 (y:Int)] 3)).grownBy W3 nv.ownBlock)=>(⟨HFa.out.next hgl HB1.out.1 HB1.out.2.1 HB1.out.2.2 (own_base Hna.out) hg,by have h:=ho;rw[show nx.map encN++[.int .i64 (y:Int)]=(nx++[y]).map encN by rw[List.map_append];rfl]at h;simpa using h,by have:=hg.size;simp at this;omega⟩:F2 w W3 g L (some ⟨rb,ro,none⟩) i c H' tv' (ts++[t]) ll (.slice (some ⟨gl,0,none⟩) ll.length cap2)/\W3.ownsRow B1 3 1 nv' (nx++[y]).length ((nx++[y]).map encN)/\B1<=W3.heap.size))
        clear hF hnv HF Hnv
        go_wp2_with (at_builtin;refine wpList_append_own _ rfl _ _ 43 rfl B1 3 i0 (.int .i64 0) 1 8 und_ints hi0 hz0 hz1 hz2 rfl (by decide) nv nx.length _ rfl Hna.out ⟨W.heap.size,0,none⟩ 1 1 [.int .i64 (y:Int)] rfl rfl (one_new _ _ _) (by simp[Value.oneCell']) (by simp only[maxLen];omega) (by omega) (by simp;omega) ?_;intro nv' W3 hown' hgr _;have Hn3:=Lib.hid (Hfin.out nv' W3 hown' hgr);clear hown' hgr)
        refine hK2 _ _ (r-1) (by omega) ⟨rfl,k+1,rm+1,nx++[y],nv',H',by omega,by omega,by simpa using hnxk,Lib.hid hNy.out,Lib.hid hHy.out,Hn3.out.1,Hn3.out.2.1,Hn3.out.2.2,?_⟩
        repeat (first|exact ftL|refine ftN ?_|refine ftS ?_)
       |false=>
        have hd':¬t<u.lo:=of_decide_eq_false hd
        have hNy:=Lib.hid (show nx++(Fill.takeL (loAt rs) t rm (ll.drop (k+1))).2=NX by
         rw[<-hNx.out]
         conv=>rhs;unfold Fill.takeL
         rw[if_neg (by rw[hlo];exact hd')])
        have hHy:=Lib.hid (show asg ((Fill.takeL (loAt rs) t rm (ll.drop (k+1))).1.map λy=>(y,t)) (updN H' y t)=HX by
         rw[<-hHx.out]
         conv=>rhs;unfold Fill.takeL
         rw[if_neg (by rw[hlo];exact hd')];rfl)
        have j8:IntKind.i64.wrap ((rm:Int)+1-1)=(rm:Int):=by rw[IntKind.wrap_i64];omega
        have HFp:=Lib.hid (HF.out.put hgl y t)
        have Hnp:=Lib.hid (own_other Hnv.out ⟨w.heap.size+1,y,none⟩ (λe=>by have:=own_base Hnv.out _ e;have:=HB1.out.1;simp at*;omega) (.int .i64 t))
        clear hNx hHx hy hdr hs2 hu hlo hd' hF hnv HF Hnv
        go_wp2
        refine hK2 _ _ (r-1) (by omega) ⟨rfl,k+1,rm,nx,nv,_,by omega,by omega,by omega,Lib.hid hNy.out,Lib.hid hHy.out,HFp.out,Hnp.out,by simp;omega,?_⟩
        repeat (first|exact ftL|refine ftN ?_|refine ftS ?_)
     ·obtain rfl:k=ll.length:=by omega
      have hnx:nx=NX:=by have h1:=hNx.out;rw[List.drop_length]at h1;simpa[Fill.takeL]using h1
      have hhx:H'=HX:=by have h1:=hHx.out;rw[List.drop_length]at h1;simpa[Fill.takeL,asg]using h1
      subst hnx hhx
      have HL:=Lib.hid (LeftV.own (own_low Hnv.out HB1.out.1))
      have HF4:=Lib.hid (show F2 w W g L (some ⟨rb,ro,none⟩) i c H' tv' (ts++[t]) nx nv from⟨hF.fv,hF.hrs,hF.tv,HL.out⟩)
      clear hK2 hNx hHx hF hnv HF Hnv HL
      go_wp2
      refine hK _ _ m' (by omega) ⟨rfl,nx,nv,ts++[t],tv',H',Hshort.out,Lib.hid Hsub2.out,Lib.hid (by rw[<-HTs.out];simp),Lib.hid HAs2.out,HF4.out,?_⟩
      repeat (first|exact ftL|refine ftN ?_|refine ftS ?_)
end Go.Proofs.YtifehdoghfnhoaaGreatDoor
namespace Go.Proofs.YtifehdoghfnhoaaGreatDoor
open Go.RowKit Go.Shelf
theorem info_ints:(Tryz.prog.info? 43).map (λi=>(i.zero,i.size,i.bytes))=some (some (.slice none 0 0),1,24):=by kernel_rfl
theorem und_intss:Tryz.prog.underlying 59=some (.slice 43):=by kernel_rfl
def goL(fits:List Nat->Bool)(n:Nat):Nat->List Nat->List (List Nat)
 |0,_=>[]
 |f+1,l=>(if fits (l++[n-(f+1)])then(l++[n-(f+1)])::goL fits n f (l++[n-(f+1)])else [])++goL fits n f l
theorem goL_len(fits:List Nat->Bool)(n:Nat):∀(f:Nat)(l:List Nat),(goL fits n f l).length+1<=2^f
 |0,_=>by simp[goL]
 |f+1,l=>by
  have h1:=goL_len fits n f (l++[n-(f+1)])
  have h2:=goL_len fits n f l
  unfold goL
  rw[List.length_append,Nat.pow_succ]
  split
  ·simp only[List.length_cons];omega
  ·simp only[List.length_nil];omega
theorem below_none{W W':World}(h:W.grownBy W' none):Below W.heap.size W W':=⟨h.os,h.tape,h.output,h.size,λk hk=>h.block k hk (by simp)⟩
def ListV(W:World)(base:Nat)(l:List Nat)(v:Value):Prop:=W.ownsRow base 3 1 v l.length (l.map encN)
theorem ListV.snoc{W:World}{B base:Nat}{l:List Nat}{i:Nat}{v:Value}(h:W.ownsRow B 3 1 v (l.length+1) (l.map encN++[.int .i64 (i:Int)]))(hb:base<=B):ListV W base (l++[i]) v:=by
 have he:l.map encN++[.int .i64 (i:Int)]=(l++[i]).map encN:=by rw[List.map_append];rfl
 rw[he]at h
 unfold ListV
 simpa using own_low h hb
structure OutV(W:World)(base:Nat)(os:List (List Nat))(ov:Value)(vs:List Value):Prop where
 len:vs.length=os.length
 own:W.ownsRow base 43 1 ov vs.length vs
 rows:∀(i:Nat)(l:List Nat),os[i]? =some l->∃v,vs[i]? =some v/\ListV W base l v
structure LS(base:Nat)(w0 W:World)(B2 B3 B5 B6 n:Nat)(fv:Value)(os:List (List Nat)):Prop where
 bel:Below base w0 W
 b2:Blk W B2 3 #[.int .i64 (n:Int)]
 b3:Blk W B3 150 #[fv]
 b6:Blk W B6 409 #[.func (.func 346) #[] #[.pointer (some ⟨B2,0,none⟩),.pointer (some ⟨B3,0,none⟩),.pointer (some ⟨B5,0,none⟩),.pointer (some ⟨B6,0,none⟩)]]
 ge:base<=B5
 out:∃ov vs,Blk W B5 59 #[ov]/\OutV W base os ov vs
def KL(base:Nat)(W W':World):Prop:=W.heap.size<=W'.heap.size/\∀l v,ListV W base l v->ListV W' base l v
section
variable{base:Nat}{w0 W W':World}{B2 B3 B5 B6 n:Nat}{fv:Value}{os:List (List Nat)}
theorem KL.refl(W:World):KL base W W:=⟨Nat.le_refl _,λ_ _ h=>h⟩
theorem KL.trans{A B C:World}(h:KL base A B)(k:KL base B C):KL base A C:=⟨Nat.le_trans h.1 k.1,λl v hv=>k.2 l v (h.2 l v hv)⟩
theorem KL.of_below(h:Below W.heap.size W W'):KL base W W':=⟨h.size,λ_ _ hv=>owL hv h⟩
theorem LS.later(h:LS base w0 W B2 B3 B5 B6 n fv os)(hb:Below W.heap.size W W'):LS base w0 W' B2 B3 B5 B6 n fv os:=by
 obtain⟨ov,vs,h1,h2⟩:=h.out
 have hbz:=h1.lt
 have hge:=h.ge
 refine⟨h.bel.trans ⟨hb.os,hb.tape,hb.output,hb.size,λk hk=>hb.block k (by omega)⟩,h.b2.later hb,h.b3.later hb,h.b6.later hb,h.ge,ov,vs,h1.later hb,h2.len,owL h2.own hb,λi l hi=>?_⟩
 obtain⟨v,h3,h4⟩:=h2.rows i l hi
 exact⟨v,h3,owL h4 hb⟩
theorem LS.push(h:LS base w0 W B2 B3 B5 B6 n fv os){ov ov':Value}{vs:List Value}(h1:Blk W B5 59 #[ov])(h2:OutV W base os ov vs){l:List Nat}{v:Value}(hl:ListV W base l v)(hg:W.grownBy W' ov.ownBlock)(ho:W'.ownsRow base 43 1 ov' (vs.length+1) (vs++[v])):
 LS base w0 (W'.setCell ⟨B5,0,none⟩ ov') B2 B3 B5 B6 n fv (os++[l])/\KL base W (W'.setCell ⟨B5,0,none⟩ ov'):=by
 have hnb:∀{b:Nat}{t:TypeId}{cs:Array Value},Blk W b t cs->t≠43->ov.ownBlock≠some b:=λhb ht=>hb.notRow h2.own ht
 have n2:B5≠B2:=(h1.apart h.b2 (by decide))
 have n3:B5≠B3:=(h1.apart h.b3 (by decide))
 have n6:B5≠B6:=(h1.apart h.b6 (by decide))
 have hlb:∀l v,ListV W base l v->ListV (W'.setCell ⟨B5,0,none⟩ ov') base l v:=λl v hv=>by
  have h5:ListV W' base l v:=own_grown hv hg (own_apart hv h2.own (by decide))
  exact own_other h5 _ ((h1.grown hg (hnb h1 (by decide))).notRow h5 (by decide)) _
 have hs1:(W'.setCell ⟨B5,0,none⟩ ov').heap.size=W'.heap.size:=by simp[World.setCell]
 refine⟨⟨?_,(h.b2.grown hg (hnb h.b2 (by decide))).other n2 _,(h.b3.grown hg (hnb h.b3 (by decide))).other n3 _,(h.b6.grown hg (hnb h.b6 (by decide))).other n6 _,h.ge,ov',vs++[v],?_,?_,?_,λi l' hi=>?_⟩,by rw[hs1];exact hg.size,hlb⟩
 ·have hge:=h.ge
  refine(h.bel.trans ⟨hg.os,hg.tape,hg.output,hg.size,λk hk=>hg.block k (by have:=h1.lt;omega) (λe=>by have:=own_base h2.own _ e.symm;omega)⟩).setCell (by show base<=B5;omega) _
 ·have h5:=(h1.grown hg (hnb h1 (by decide))).set 0 ov'
  simpa using h5
 ·simp[h2.len]
 ·have h5:W'.ownsRow base 43 1 ov' (vs++[v]).length (vs++[v]):=by simpa using ho
  exact own_other h5 _ ((h1.grown hg (hnb h1 (by decide))).notRow h5 (by decide)) _
 ·by_cases e:i<os.length
  ·rw[List.getElem?_append_left e]at hi
   obtain⟨u,h3,h4⟩:=h2.rows i l' hi
   exact⟨u,by rw[List.getElem?_append_left (by rw[h2.len];exact e)];exact h3,hlb _ _ h4⟩
  ·rw[List.getElem?_append_right (by omega)]at hi
   obtain⟨e1,rfl⟩:i-os.length=0/\l=l':=by
    cases hj:i-os.length with
    |zero=>rw[hj]at hi;simpa using hi
    |succ j=>rw[hj]at hi;simp at hi
   refine⟨v,?_,hlb _ _ hl⟩
   rw[List.getElem?_append_right (by rw[h2.len];omega),h2.len,e1]
   rfl
end
set_option maxRecDepth 100000 in
set_option maxHeartbeats 8000000 in
theorem goOn_any(base:Nat)(w0:World)(B2 B3 B5 B6 n:Nat)(gf:Nat)(lb:Array Value)(ef:∀args w,(callFunc gf args).run Tryz.prog w=.ok (.enter gf args) w)(fits:List Nat->Bool)(hn:n<=10)
 (hf:∀l v W,Below base w0 W->ListV W base l v->(∀x∈l,x<n)->l.length<=n->Calls Tryz.prog gf (#[v]++lb) W λe W'=>e=.returned (.bool (fits l))/\Below W.heap.size W W'):
 ∀(f:Nat)(l:List Nat)(v:Value)(W:World)(os:List (List Nat)),f<=n->l.length+f<=n->(∀x∈l,x<n)->LS base w0 W B2 B3 B5 B6 n (.func (.func gf) #[] lb) os->ListV W base l v->os.length+2^f<=4000->
  Calls Tryz.prog 346 #[v,.int .i64 ((n-f:Nat):Int),.pointer (some ⟨B2,0,none⟩),.pointer (some ⟨B3,0,none⟩),.pointer (some ⟨B5,0,none⟩),.pointer (some ⟨B6,0,none⟩)] W λe W'=>e=.returned (.tuple #[])/\LS base w0 W' B2 B3 B5 B6 n (.func (.func gf) #[] lb) (os++goL fits n f l)/\KL base W W':=by
 intro f
 induction f using Nat.strongRecOn with
 |_ f ih=>
 intro l v W os hfn hlf hlx hL hl hos
 have IH:=Lib.hid ih
 have Hf:=Lib.hid hf
 have HL:=Lib.hid hL
 have Hl:=Lib.hid hl
 have Hlx:=Lib.hid hlx
 clear ih hf hL hl hlx
 obtain⟨fr,hfr⟩:∃fr,n-f=fr:=⟨_,rfl⟩
 rw[hfr]
 have Hfr:=Lib.hid hfr
 clear hfr
 go_enter Tryz.func346,Tryz.ntmps346
 go_wp2_with fail
 refine lpn (λm a V=>a.defers=[]/\∃(i:Nat)(os':List (List Nat)),m<=f/\i+m=n/\Hid (os'++goL fits n m l=os++goL fits n f l)/\os'.length+2^m<=4000/\LS base w0 V B2 B3 B5 B6 n (.func (.func gf) #[] lb) os'/\KL base W V/\Fits (some (v)::none::some (.pointer (some ⟨B2,0,none⟩))::some (.pointer (some ⟨B3,0,none⟩))::some (.pointer (some ⟨B5,0,none⟩))::some (.pointer (some ⟨B6,0,none⟩))::none::none::some (.int .i64 (i:Nat))::none::none::none::none::none::none::none::none::none::none::none::none::none::none::none::none::none::none::none::none::none::none::none::none::none::none::none::none::[]) a.tmps.toList) f ?_ ?_
 ·refine⟨rfl,fr,os,Nat.le_refl _,by have:=Hfr.out;omega,Lib.hid rfl,hos,HL.out,KL.refl _,?_⟩
  repeat (first|exact ftL|refine ftN ?_|refine ftS ?_)
 clear HL
 intro m a V hI K hK
 obtain⟨hds,i,os',hmf,him,hos',hol,hL,hkl,hfit⟩:=hI
 obtain⟨f1,hf1⟩:=ftA hfit
 rw[hds]at hf1
 subst hf1
 clear hfit hds
 simp only[fillP,Nat.reduceAdd]
 have b0:=hL.b2.cell 0
 have b1:=hL.b2.lt
 have c0:=hL.b3.cell 0
 have c1:=hL.b3.lt
 have HL:=Lib.hid hL
 have Hkl:=Lib.hid hkl
 cases m with
 |zero=>
  obtain rfl:i=n:=by omega
  have HE:=Lib.hid (show os'=os++goL fits i f l by rw[<-hos'.out];simp[goL])
  clear hL hkl hK hos'
  go_wp2
  go_end0
  exact⟨rfl,by rw[<-HE.out];exact HL.out,Hkl.out⟩
 |succ m=>
  have i1:(i:Int)<(n:Int):=by omega
  have i2:(0:Int)<=(i:Int):=by omega
  have i3:IntKind.i64.wrap ((i:Int)+1)=(i:Int)+1:=by rw[IntKind.wrap_i64];omega
  have hlv:=hkl.2 l v Hl.out
  have hlen:l.length<=10:=by omega
  have hnm:n-(m+1)=i:=by omega
  have hpos:1<=2^m:=Nat.one_le_two_pow
  have hpow:2^(m+1)=2^m*2:=Nat.pow_succ 2 m
  have hst:goL fits n (m+1) l=(if fits (l++[i])then(l++[i])::goL fits n m (l++[i])else [])++goL fits n m l:=by
   conv=>lhs;unfold goL
   rw[hnm]
  have Hos:=Lib.hid hos'.out
  rw[hst]at Hos
  obtain⟨i0,hi0,hz0,hz1,hz2⟩:=info_parts info_int
  have hal:=balloc (brefl V) (.cells #[.int .i64 (i:Int)] 3)
  have HL1:=Lib.hid (hL.later hal)
  have Hkl1:=Lib.hid (hkl.trans (KL.of_below (base:=base) hal))
  have Hlv1:=Lib.hid (owL hlv hal)
  have hbV:base<=V.heap.size:=by have:=hL.ge;obtain⟨_,_,h5,_⟩:=hL.out;have:=h5.lt;omega
  have HbV:=Lib.hid (show base<=(V.alloc (.cells #[.int .i64 (i:Int)] 3)).heap.size by simp;omega)
  have Hnx:=Lib.hid (show∀x∈l++[i],x<n fromλx hx=>by
   rcases List.mem_append.1 hx with h6|h6
   ·exact Hlx.out x h6
   ·obtain rfl:=List.mem_singleton.1 h6;omega)
  rcases hlv.2 with⟨rfl,hl0⟩|⟨g0,cap,cur,rfl,hg0,hcur,hcc,_,hsz,htk⟩
  ·have Hle:=Lib.hid (show l=[]from List.eq_nil_of_length_eq_zero hl0)
   clear hL hkl hlv hos' hst hnm HL hl0
   go_wp2_with (at_builtin;refine wpList_append_grows _ rfl _ _ 43 rfl 3 i0 (.int .i64 0) 1 8 und_ints hi0 hz0 hz1 hz2 rfl (by decide) _ 0 0 (([]:List Nat).map encN) rfl (by simp) (by simp) (λb hb=>by cases hb) ⟨V.heap.size,0,none⟩ 1 1 [.int .i64 (i:Int)] rfl rfl (one_new _ _ _) (by simp[Value.oneCell']) (by omega) (by simp only[maxLen];omega) (by omega) ?_;intro v' W3 hown' hgr;obtain⟨gg,cap',rfl⟩:=own_succ hown';have HF3:=Lib.hid (HL1.out.later (below_none hgr));have HK3:=Lib.hid (Hkl1.out.trans (KL.of_below (base:=base) (below_none hgr)));have Hnv:=Lib.hid (show ListV W3 base (l++[i]) _ from by rw[Hle.out];exact ListV.snoc (l:=[]) hown' HbV.out);have d0:=HF3.out.b3.cell 0;have d1:=HF3.out.b3.lt;clear hown' hgr)
   refine(Hf.out (l++[i]) _ W3 HF3.out.bel Hnv.out Hnx.out (by simp;omega)).mono ?_
   rintro e W4⟨rfl,hb4⟩
   have HF4:=Lib.hid (HF3.out.later hb4)
   have HK4:=Lib.hid (HK3.out.trans (KL.of_below (base:=base) hb4))
   have Hnv4:=Lib.hid (show ListV W4 base (l++[i]) _ from owL Hnv.out hb4)
   clear hb4 d0 d1 HF3 HK3 Hnv
   cases hq:fits (l++[i])
   rotate_left
   ·have HT:=Lib.hid hq
    clear hq
    rw[HT.out,if_pos rfl]at Hos
    obtain⟨ov,vs,ho1,ho2⟩:=HF4.out.out
    have hal4:=balloc (brefl W4) (.cells #[.slice (some ⟨gg,0,none⟩) (0+1) cap'] 43)
    have hF5:=HF4.out.later hal4
    have ho3:=ho1.later hal4
    have ho4:OutV (W4.alloc (.cells #[.slice (some ⟨gg,0,none⟩) (0+1) cap'] 43)) base os' ov vs:=⟨ho2.len,owL ho2.own hal4,λj l' hj=>by
     obtain⟨u,h6,h7⟩:=ho2.rows j l' hj
     exact⟨u,h6,owL h7 hal4⟩⟩
    have Hnv5:=Lib.hid (show ListV (W4.alloc (.cells #[.slice (some ⟨gg,0,none⟩) (0+1) cap'] 43)) base (l++[i]) (.slice (some ⟨gg,0,none⟩) (0+1) cap')from owL Hnv4.out hal4)
    have HK5:=Lib.hid (HK4.out.trans (KL.of_below (base:=base) hal4))
    have Hpush:=Lib.hid (λ(W5:World)(ov':Value)(hg:(W4.alloc (.cells #[.slice (some ⟨gg,0,none⟩) (0+1) cap'] 43)).grownBy W5 ov.ownBlock)(ho:W5.ownsRow base 43 1 ov' (vs.length+1) (vs++[.slice (some ⟨gg,0,none⟩) (0+1) cap']))=>hF5.push ho3 ho4 Hnv5.out hg ho)
    have Hgrow:=Lib.hid (λ(W5:World)(hg:(W4.alloc (.cells #[.slice (some ⟨gg,0,none⟩) (0+1) cap'] 43)).grownBy W5 ov.ownBlock)=>ho3.grown hg (ho3.notRow ho4.own (by decide)))
    have hvl:vs.length<=4000:=by rw[ho2.len];omega
    have hb4:base<=(W4.alloc (.cells #[.slice (some ⟨gg,0,none⟩) (0+1) cap'] 43)).heap.size:=by have:=hF5.ge;have:=ho3.lt;omega
    have e0:=ho1.cell 0
    have e1:=ho1.lt
    have Ho4:=Lib.hid ho4.own
    obtain⟨j0,hj0,hjz0,hjz1,hjz2⟩:=info_parts info_ints
    have IHm:=IH.out m (by omega) (l++[i]) (.slice (some ⟨gg,0,none⟩) (0+1) cap')
    rw[show(((n-m:Nat)):Int)=(i:Int)+1 by omega]at IHm
    have HI:=Lib.hid IHm
    clear ho1 ho2 hF5 ho3 ho4 hal4 IHm HF4 HK4 Hnv4
    go_wp2_with (at_builtin;refine wpList_append_own _ rfl _ _ 59 rfl base 43 j0 (.slice none 0 0) 1 24 und_intss hj0 hjz0 hjz1 hjz2 rfl (by decide) ov vs.length vs rfl Ho4.out ⟨W4.heap.size,0,none⟩ 1 1 [.slice (some ⟨gg,0,none⟩) (0+1) cap'] rfl rfl (one_new _ _ _) (by simp[Value.oneCell']) (by simp only[maxLen];omega) (by omega) hb4 ?_;intro ov' W5 hown5 hgr5 _;obtain⟨g5,cap5,rfl⟩:=own_succ hown5;have hp5:=Hpush.out W5 _ hgr5 hown5;have ho5:=Hgrow.out W5 hgr5;have m0:=ho5.cell 0;have m1:=ho5.lt;have m2:=ho5.frozen 0;have HP5:=Lib.hid hp5;have q0:=hp5.1.b6.cell 0;have q1:=hp5.1.b6.lt;clear hown5 hgr5 hp5 ho5)
    refine(HI.out _ (os'++[l++[i]]) (by omega) (by simp;omega) Hnx.out HP5.out.1 (HP5.out.2.2 _ _ Hnv5.out) (by simp;omega)).mono ?_
    rintro e W6⟨rfl,hL6,hK6⟩
    have HL6:=Lib.hid hL6
    have HK6:=Lib.hid ((HK5.out.trans HP5.out.2).trans hK6)
    clear hL6 hK6 m0 m1 m2 q0 q1 e0 e1 HP5
    have hgl:=goL_len fits n m (l++[i])
    go_wp2
    refine hK _ _ m (by omega) ⟨rfl,i+1,_,by omega,by omega,Lib.hid (by rw[<-Hos.out];simp),?_,HL6.out,HK6.out,?_⟩
    ·rw[List.length_append,List.length_append];simp only[List.length_cons,List.length_nil];omega
    ·repeat (first|exact ftL|refine ftN ?_|refine ftS ?_)
   ·have HT:=Lib.hid hq
    clear hq
    rw[HT.out,if_neg (by simp)]at Hos
    go_wp2
    refine hK _ _ m (by omega) ⟨rfl,i+1,os',by omega,by omega,Lib.hid (by rw[<-Hos.out];simp),by omega,HF4.out,HK4.out,?_⟩
    repeat (first|exact ftL|refine ftN ?_|refine ftS ?_)
  ·have i5:(l.length:Int)<=(cap:Int):=by omega
   have Hold:=Lib.hid (show∀b,(some ⟨g0,0,none⟩:Option Addr)=some b->∀j u,(l.map encN)[j]? =some u->(V.alloc (.cells #[.int .i64 (i:Int)] 3)).cell? (b.add j)=some u fromλb hb j u hu=>by
    cases hb
    have hadd:(⟨g0,0,none⟩:Addr).add j=⟨g0,j,none⟩:=by unfold Addr.add;split<;>simp_all
    rw[hadd]
    rw[<-htk]at hu
    have h5:=(List.getElem?_eq_some_iff.1 hu).1
    rw[List.getElem?_take_of_lt (by simp at h5;omega)]at hu
    have hc2:=(hal.block g0 (Array.getElem?_eq_some_iff.1 hcur).1).trans hcur
    simp only[World.cell?,hc2]
    simpa using hu)
   clear hL hkl hlv hos' hst hnm HL hcur hsz htk
   go_wp2_with (at_builtin;refine wpList_append_grows _ rfl _ _ 43 rfl 3 i0 (.int .i64 0) 1 8 und_ints hi0 hz0 hz1 hz2 rfl (by decide) _ l.length l.length (l.map encN) rfl (by simp) (by simp) Hold.out ⟨V.heap.size,0,none⟩ 1 1 [.int .i64 (i:Int)] rfl rfl (one_new _ _ _) (by simp[Value.oneCell']) (by omega) (by simp only[maxLen];omega) (by omega) ?_;intro v' W3 hown' hgr;obtain⟨gg,cap',rfl⟩:=own_succ hown';have HF3:=Lib.hid (HL1.out.later (below_none hgr));have HK3:=Lib.hid (Hkl1.out.trans (KL.of_below (base:=base) (below_none hgr)));have Hnv:=Lib.hid (ListV.snoc (l:=l) hown' HbV.out);have d0:=HF3.out.b3.cell 0;have d1:=HF3.out.b3.lt;clear hown' hgr)
   refine(Hf.out (l++[i]) _ W3 HF3.out.bel Hnv.out Hnx.out (by simp;omega)).mono ?_
   rintro e W4⟨rfl,hb4⟩
   have HF4:=Lib.hid (HF3.out.later hb4)
   have HK4:=Lib.hid (HK3.out.trans (KL.of_below (base:=base) hb4))
   have Hnv4:=Lib.hid (show ListV W4 base (l++[i]) _ from owL Hnv.out hb4)
   clear hb4 d0 d1 HF3 HK3 Hnv
   cases hq:fits (l++[i])
   rotate_left
   ·have HT:=Lib.hid hq
    clear hq
    rw[HT.out,if_pos rfl]at Hos
    obtain⟨ov,vs,ho1,ho2⟩:=HF4.out.out
    have hal4:=balloc (brefl W4) (.cells #[.slice (some ⟨gg,0,none⟩) (l.length+1) cap'] 43)
    have hF5:=HF4.out.later hal4
    have ho3:=ho1.later hal4
    have ho4:OutV (W4.alloc (.cells #[.slice (some ⟨gg,0,none⟩) (l.length+1) cap'] 43)) base os' ov vs:=⟨ho2.len,owL ho2.own hal4,λj l' hj=>by
     obtain⟨u,h6,h7⟩:=ho2.rows j l' hj
     exact⟨u,h6,owL h7 hal4⟩⟩
    have Hnv5:=Lib.hid (show ListV (W4.alloc (.cells #[.slice (some ⟨gg,0,none⟩) (l.length+1) cap'] 43)) base (l++[i]) (.slice (some ⟨gg,0,none⟩) (l.length+1) cap')from owL Hnv4.out hal4)
    have HK5:=Lib.hid (HK4.out.trans (KL.of_below (base:=base) hal4))
    have Hpush:=Lib.hid (λ(W5:World)(ov':Value)(hg:(W4.alloc (.cells #[.slice (some ⟨gg,0,none⟩) (l.length+1) cap'] 43)).grownBy W5 ov.ownBlock)(ho:W5.ownsRow base 43 1 ov' (vs.length+1) (vs++[.slice (some ⟨gg,0,none⟩) (l.length+1) cap']))=>hF5.push ho3 ho4 Hnv5.out hg ho)
    have Hgrow:=Lib.hid (λ(W5:World)(hg:(W4.alloc (.cells #[.slice (some ⟨gg,0,none⟩) (l.length+1) cap'] 43)).grownBy W5 ov.ownBlock)=>ho3.grown hg (ho3.notRow ho4.own (by decide)))
    have hvl:vs.length<=4000:=by rw[ho2.len];omega
    have hb4:base<=(W4.alloc (.cells #[.slice (some ⟨gg,0,none⟩) (l.length+1) cap'] 43)).heap.size:=by have:=hF5.ge;have:=ho3.lt;omega
    have e0:=ho1.cell 0
    have e1:=ho1.lt
    have Ho4:=Lib.hid ho4.own
    obtain⟨j0,hj0,hjz0,hjz1,hjz2⟩:=info_parts info_ints
    have IHm:=IH.out m (by omega) (l++[i]) (.slice (some ⟨gg,0,none⟩) (l.length+1) cap')
    rw[show(((n-m:Nat)):Int)=(i:Int)+1 by omega]at IHm
    have HI:=Lib.hid IHm
    clear ho1 ho2 hF5 ho3 ho4 hal4 IHm HF4 HK4 Hnv4
    go_wp2_with (at_builtin;refine wpList_append_own _ rfl _ _ 59 rfl base 43 j0 (.slice none 0 0) 1 24 und_intss hj0 hjz0 hjz1 hjz2 rfl (by decide) ov vs.length vs rfl Ho4.out ⟨W4.heap.size,0,none⟩ 1 1 [.slice (some ⟨gg,0,none⟩) (l.length+1) cap'] rfl rfl (one_new _ _ _) (by simp[Value.oneCell']) (by simp only[maxLen];omega) (by omega) hb4 ?_;intro ov' W5 hown5 hgr5 _;obtain⟨g5,cap5,rfl⟩:=own_succ hown5;have hp5:=Hpush.out W5 _ hgr5 hown5;have ho5:=Hgrow.out W5 hgr5;have m0:=ho5.cell 0;have m1:=ho5.lt;have m2:=ho5.frozen 0;have HP5:=Lib.hid hp5;have q0:=hp5.1.b6.cell 0;have q1:=hp5.1.b6.lt;clear hown5 hgr5 hp5 ho5)
    refine(HI.out _ (os'++[l++[i]]) (by omega) (by simp;omega) Hnx.out HP5.out.1 (HP5.out.2.2 _ _ Hnv5.out) (by simp;omega)).mono ?_
    rintro e W6⟨rfl,hL6,hK6⟩
    have HL6:=Lib.hid hL6
    have HK6:=Lib.hid ((HK5.out.trans HP5.out.2).trans hK6)
    clear hL6 hK6 m0 m1 m2 q0 q1 e0 e1 HP5
    have hgl:=goL_len fits n m (l++[i])
    go_wp2
    refine hK _ _ m (by omega) ⟨rfl,i+1,_,by omega,by omega,Lib.hid (by rw[<-Hos.out];simp),?_,HL6.out,HK6.out,?_⟩
    ·rw[List.length_append,List.length_append];simp only[List.length_cons,List.length_nil];omega
    ·repeat (first|exact ftL|refine ftN ?_|refine ftS ?_)
   ·have HT:=Lib.hid hq
    clear hq
    rw[HT.out,if_neg (by simp)]at Hos
    go_wp2
    refine hK _ _ m (by omega) ⟨rfl,i+1,os',by omega,by omega,Lib.hid (by rw[<-Hos.out];simp),by omega,HF4.out,HK4.out,?_⟩
    repeat (first|exact ftL|refine ftN ?_|refine ftS ?_)
end Go.Proofs.YtifehdoghfnhoaaGreatDoor
namespace Go.Proofs.YtifehdoghfnhoaaGreatDoor
open Go.RowKit Go.Shelf
theorem LS.start{w:World}{n gf:Nat}{lb:Array Value}:LS w.heap.size w (((((w.alloc (.cells #[.int .i64 (n:Int)] 3)).alloc (.cells #[.func (.func gf) #[] lb] 150)).alloc (.cells #[.slice none 0 0] 43)).alloc (.cells #[.slice (some ⟨w.heap.size+1+1,0,none⟩) 1 1] 59)).alloc (.cells #[.func (.func 346) #[] #[.pointer (some ⟨w.heap.size,0,none⟩),.pointer (some ⟨w.heap.size+1,0,none⟩),.pointer (some ⟨w.heap.size+1+1+1,0,none⟩),.pointer (some ⟨w.heap.size+1+1+1+1,0,none⟩)]] 409)) w.heap.size (w.heap.size+1) (w.heap.size+1+1+1) (w.heap.size+1+1+1+1) n (.func (.func gf) #[] lb) [[]]:=by
 have s1:∀(W:World)(o:Obj),(W.alloc o).heap.size=W.heap.size+1:=λW o=>World.size_alloc W o
 have g2:=Blk.new w 3 #[.int .i64 (n:Int)]
 have g3:=Blk.new (w.alloc (.cells #[.int .i64 (n:Int)] 3)) 150 #[.func (.func gf) #[] lb]
 have g4:=Blk.new ((w.alloc (.cells #[.int .i64 (n:Int)] 3)).alloc (.cells #[.func (.func gf) #[] lb] 150)) 43 #[.slice none 0 0]
 have g5:=Blk.new (((w.alloc (.cells #[.int .i64 (n:Int)] 3)).alloc (.cells #[.func (.func gf) #[] lb] 150)).alloc (.cells #[.slice none 0 0] 43)) 59 #[.slice (some ⟨w.heap.size+1+1,0,none⟩) 1 1]
 have g6:=Blk.new ((((w.alloc (.cells #[.int .i64 (n:Int)] 3)).alloc (.cells #[.func (.func gf) #[] lb] 150)).alloc (.cells #[.slice none 0 0] 43)).alloc (.cells #[.slice (some ⟨w.heap.size+1+1,0,none⟩) 1 1] 59)) 409 #[.func (.func 346) #[] #[.pointer (some ⟨w.heap.size,0,none⟩),.pointer (some ⟨w.heap.size+1,0,none⟩),.pointer (some ⟨w.heap.size+1+1+1,0,none⟩),.pointer (some ⟨w.heap.size+1+1+1+1,0,none⟩)]]
 simp only[s1]at g3 g4 g5 g6
 refine⟨balloc (balloc (balloc (balloc (balloc (brefl w) _) _) _) _) _,(((g2.alloc _).alloc _).alloc _).alloc _,((g3.alloc _).alloc _).alloc _,g6,by omega,_,[.slice none 0 0],g5.alloc _,rfl,?_,λi l hi=>?_⟩
 ·exact⟨rfl,.inr ⟨w.heap.size+1+1,1,_,rfl,by omega,(g4.alloc _).alloc _,Nat.le_refl _,by simp[maxLen],rfl,rfl⟩⟩
 ·cases i with
  |zero=>
   obtain rfl:l=[]:=by simpa using hi.symm
   exact⟨_,rfl,World.ownsRow_nil _ _ _ _⟩
  |succ i=>simp at hi
set_option maxRecDepth 100000 in
set_option maxHeartbeats 8000000 in
theorem lists_any(n:Nat)(gf:Nat)(lb:Array Value)(ef:∀args w,(callFunc gf args).run Tryz.prog w=.ok (.enter gf args) w)(fits:List Nat->Bool)(hn:n<=10)(w:World)
 (hf:∀l v W,Below w.heap.size w W->ListV W w.heap.size l v->(∀x∈l,x<n)->l.length<=n->Calls Tryz.prog gf (#[v]++lb) W λe W'=>e=.returned (.bool (fits l))/\Below W.heap.size W W'):
 Calls Tryz.prog 263 #[.int .i64 (n:Int),.func (.func gf) #[] lb] w λe w'=>∃ov vs,e=.returned ov/\Below w.heap.size w w'/\OutV w' w.heap.size ([]::goL fits n n []) ov vs:=by
 go_enter Tryz.func263,Tryz.ntmps263
 have HS:=Lib.hid (LS.start (w:=w) (n:=n) (gf:=gf) (lb:=lb))
 go_wp2_with fail
 have H:=goOn_any w.heap.size w w.heap.size (w.heap.size+1) (w.heap.size+1+1+1) (w.heap.size+1+1+1+1) n gf lb ef fits hn hf n [] (.slice none 0 0) _ [[]] (Nat.le_refl _) (by simp) (by simp) HS.out (World.ownsRow_nil _ _ _ _) (by
  have:2^n<=2^10:=Nat.pow_le_pow_right (by omega) hn
  simp;omega)
 rw[Nat.sub_self,show((0:Nat):Int)=0 from rfl]at H
 refine H.mono ?_
 rintro e W⟨rfl,hL,_⟩
 obtain⟨ov,vs,h1,h2⟩:=hL.out
 have c0:=h1.cell 0
 have c1:=h1.lt
 have HL:=Lib.hid hL.bel
 have HO:=Lib.hid h2
 clear hL h1 h2 H HS hf
 go_wp2
 go_ret
 exact⟨ov,vs,rfl,HL.out,HO.out⟩
set_option maxHeartbeats 1000000 in
theorem keep2_any(A B:Option Addr)(n m c d:Nat)(w:World):
 Calls Tryz.prog 264 #[.slice A n c,.slice B m d] w λe w'=>e=.returned (.bool (decide (m<n)))/\Below w.heap.size w w':=by
 go_enter Tryz.func264,Tryz.ntmps264
 go_wp2
 go_ret
 exact⟨rtB (by simp),brefl _⟩
def pickL:List (List Nat)->List Nat->List Nat
 |[],b=>b
 |x::xs,b=>pickL xs (if b.length<x.length then x else b)
theorem OutV.at_{W:World}{base:Nat}{os:List (List Nat)}{ov:Value}{vs:List Value}(h:OutV W base os ov vs){g n cap:Nat}(hv:ov=.slice (some ⟨g,0,none⟩) n cap){i:Nat}{l:List Nat}(hi:os[i]? =some l):∃A c,ListV W base l (.slice A l.length c)/\W.cell? ⟨g,i,none⟩=some (.slice A l.length c):=by
 obtain⟨v,h1,h2⟩:=h.rows i l hi
 have hvv:∃A c,v=.slice A l.length c:=by
  rcases h2.2 with⟨rfl,h0⟩|⟨g',cap',_,rfl,_⟩
  ·exact⟨none,0,by rw[h0]⟩
  ·exact⟨_,cap',rfl⟩
 obtain⟨A,c,rfl⟩:=hvv
 refine⟨A,c,h2,?_⟩
 rcases h.own.2 with⟨rfl,_⟩|⟨g',cap',cur,rfl,_,hg,_,_,_,ht⟩
 ·cases hv
 ·simp only[Value.slice.injEq,Option.some.injEq,Addr.mk.injEq,and_true]at hv
  obtain⟨rfl,_⟩:=hv
  rw[<-ht]at h1
  have h5:=(List.getElem?_eq_some_iff.1 h1).1
  rw[List.getElem?_take_of_lt (by simp at h5;omega)]at h1
  simp only[World.cell?,hg]
  simpa using h1
set_option maxRecDepth 100000 in
set_option maxHeartbeats 8000000 in
theorem bestL_any(base:Nat)(l0:List Nat)(os:List (List Nat))(ov:Value)(vs:List Value)(w:World)(ho:OutV w base (l0::os) ov vs):
 Calls Tryz.prog 262 #[ov,.func (.func 264) #[] #[]] w λe w'=>∃v,e=.returned v/\ListV w' base (pickL os l0) v/\Below w.heap.size w w':=by
 obtain⟨g,n,cap,hov,hlen,hcap,hbig,hgl⟩:∃g n cap,ov=.slice (some ⟨g,0,none⟩) (n+1) cap/\os.length=n/\n+1<=cap/\cap<=9223372036854775807/\g<w.heap.size:=by
  have hl:=ho.len
  rcases ho.own.2 with⟨_,h0⟩|⟨g,cap,_,rfl,_,hg,hc,hm,_⟩
  ·rw[hl]at h0;simp at h0
  ·exact⟨g,os.length,cap,by rw[hl];rfl,rfl,by rw[hl]at hc;simpa using hc,by simp only[maxLen]at hm;omega,(Array.getElem?_eq_some_iff.1 hg).1⟩
 subst hov
 obtain⟨A0,c0,hl0,g0⟩:=ho.at_ rfl (i:=0) (l:=l0) rfl
 have Ho:=Lib.hid ho
 have Hl0:=Lib.hid hl0
 have Hlen:=Lib.hid hlen
 have i1:(0:Int)<(n:Int)+1:=by omega
 have i2:(1:Int)<=(n:Int)+1:=by omega
 have i3:(1:Int)<=(cap:Int):=by omega
 have i4:(n:Int)+1<=(cap:Int):=by omega
 clear ho hl0 hlen
 go_enter Tryz.func262,Tryz.ntmps262
 go_wp2_with fail
 ·rename_i h1
  have hn0:n=0:=by omega
  have HP:=Lib.hid (show pickL os l0=l0 by
   have:=Hlen.out
   rw[List.eq_nil_of_length_eq_zero (by omega:os.length=0)];rfl)
  have j1:¬((0:Int)<(n:Int)):=by omega
  clear hn0
  refine wp_loop_rounds 1 ?_
  rw[rounds_succ]
  go_wp2
  go_ret
  exact⟨_,rfl,by rw[HP.out];exact Hl0.out,brefl _⟩
 clear g0
 refine lpn (λm b W=>b.defers=[]/\∃(i:Nat)(l:List Nat)(A:Option Addr)(c:Nat),i+m=n/\Hid (pickL (os.drop i) l=pickL os l0)/\ListV W base l (.slice A l.length c)/\Below w.heap.size w W/\Fits (none::some (.func (.func 264) #[] #[])::none::none::none::some (.slice A l.length c)::none::none::none::none::none::none::some (.slice (some ⟨g,1,none⟩) n (cap-1))::some (.int .i64 (n:Int))::some (.int .i64 (i:Nat))::none::none::none::none::none::none::none::none::none::none::[]) b.tmps.toList) n ?_ ?_
 ·refine⟨rfl,0,l0,A0,c0,by omega,Lib.hid rfl,Hl0.out,brefl _,?_⟩
  repeat (first|exact ftL|refine ftN ?_|refine ftS ?_)
 intro m b W hI K hK
 obtain⟨hds,i,l,A,c,him,hpk,hl,hb,hfit⟩:=hI
 obtain⟨f,hf⟩:=ftA hfit
 rw[hds]at hf
 subst hf
 clear hfit hds
 simp only[fillP,Nat.reduceAdd]
 have Hl:=Lib.hid hl
 have Hb:=Lib.hid hb
 by_cases hlt:i<n
 ·obtain⟨l',hl'⟩:∃l',os[i]? =some l':=⟨_,List.getElem?_eq_getElem (by rw[Hlen.out];exact hlt)⟩
  obtain⟨A',c',hlv,g1⟩:=Ho.out.at_ rfl (i:=i+1) (l:=l') (by simpa using hl')
  have g1':W.cell? ⟨g,1+i,none⟩=some (.slice A' l'.length c'):=by rw[Nat.add_comm];exact(hb.cell (p:=⟨g,i+1,none⟩) hgl).trans g1
  have g2:W.cell? ⟨g,i+1,none⟩=some (.slice A' l'.length c'):=(hb.cell (p:=⟨g,i+1,none⟩) hgl).trans g1
  have gl2:g<W.heap.size:=Nat.lt_of_lt_of_le hgl hb.size
  have Hlv:=Lib.hid (show ListV W base l' (.slice A' l'.length c')from owL hlv hb)
  have hdr:os.drop i=l'::os.drop (i+1):=by
   obtain⟨h1,h2⟩:=List.getElem?_eq_some_iff.1 hl'
   rw[List.drop_eq_getElem_cons h1,h2]
  have Hpk:=Lib.hid (show pickL (os.drop (i+1)) (if l.length<l'.length then l' else l)=pickL os l0 by rw[<-hpk.out,hdr];rfl)
  have j1:(i:Int)<(n:Int):=by omega
  have j2:(0:Int)<=(i:Int):=by omega
  have j3:IntKind.i64.wrap ((i:Int)+1)=(i:Int)+1:=by rw[IntKind.wrap_i64];omega
  clear g1 hlv hl hb hl' hdr hpk
  go_wp2_with fail
  refine(keep2_any A' A l'.length l.length c' c _).mono ?_
  rintro e w1⟨rfl,hb1⟩
  have Hb1:=Lib.hid (Below.later Hb.out hb1)
  have Hlv1:=Lib.hid (show ListV w1 base l' (.slice A' l'.length c')from owL Hlv.out hb1)
  have Hl1:=Lib.hid (show ListV w1 base l (.slice A l.length c)from owL Hl.out hb1)
  clear hb1 g1' g2 gl2
  cases hq:decide (l.length<l'.length)with
  |true=>
   rw[if_pos (of_decide_eq_true hq)]at Hpk
   clear hq
   go_wp2
   refine hK _ _ (m-1) (by omega) ⟨rfl,i+1,l',A',c',by omega,Lib.hid Hpk.out,Hlv1.out,Hb1.out,?_⟩
   repeat (first|exact ftL|refine ftN ?_|refine ftS ?_)
  |false=>
   rw[if_neg (of_decide_eq_false hq)]at Hpk
   clear hq
   go_wp2
   refine hK _ _ (m-1) (by omega) ⟨rfl,i+1,l,A,c,by omega,Lib.hid Hpk.out,Hl1.out,Hb1.out,?_⟩
   repeat (first|exact ftL|refine ftN ?_|refine ftS ?_)
 ·obtain rfl:i=n:=by omega
  have HE:=Lib.hid (show pickL os l0=l by
   rw[<-hpk.out,List.drop_eq_nil_of_le (by rw[Hlen.out];exact Nat.le_refl _)];rfl)
  clear hK hpk hl hb
  go_wp2
  go_ret
  exact⟨_,rfl,by rw[HE.out];exact Hl.out,Hb.out⟩
end Go.Proofs.YtifehdoghfnhoaaGreatDoor
