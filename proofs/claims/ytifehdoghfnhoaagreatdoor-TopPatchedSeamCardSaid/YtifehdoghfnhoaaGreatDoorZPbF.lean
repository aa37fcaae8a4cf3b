/- Patch: a bench in memory; the least rectangle as a patch; whether two knots can share. -/
import Derived.Test.YtifehdoghfnhoaaGreatDoorZCTable
import Derived.Test.YtifehdoghfnhoaaGreatDoorZSTwo
import Derived.Test.YtifehdoghfnhoaaGreatDoorZPbC
import Derived.Test.YtifehdoghfnhoaaGreatDoorZSApiG
import Derived.Test.YtifehdoghfnhoaaGreatDoorZEvLg
namespace Go.Proofs.YtifehdoghfnhoaaGreatDoor.Pa
open Go.RowKit Go.Shelf
def mnL:List Int->Int
 |[]=>0
 |x::l=>l.foldl (λa b=>min a b) x
def mxL:List Int->Int
 |[]=>0
 |x::l=>l.foldl (λa b=>max a b) x
theorem mnL_take{xs:List Int}{k:Nat}{x:Int}(hx:xs[k+1]? =some x):mnL (xs.take (k+1+1))=min (mnL (xs.take (k+1))) x:=by
 obtain⟨h1,h2⟩:=List.getElem?_eq_some_iff.1 hx
 rw[List.take_succ_eq_append_getElem h1,h2]
 cases xs with
 |nil=>simp at h1
 |cons y l=>simp[mnL,List.foldl_append]
theorem mxL_take{xs:List Int}{k:Nat}{x:Int}(hx:xs[k+1]? =some x):mxL (xs.take (k+1+1))=max (mxL (xs.take (k+1))) x:=by
 obtain⟨h1,h2⟩:=List.getElem?_eq_some_iff.1 hx
 rw[List.take_succ_eq_append_getElem h1,h2]
 cases xs with
 |nil=>simp at h1
 |cons y l=>simp[mxL,List.foldl_append]
set_option maxRecDepth 100000 in
set_option maxHeartbeats 1000000 in
theorem min_ok(A:Option Addr)(n c:Nat)(xs:List Int)(w:World)(hs:Sl 1 encI w w.heap.size A n c xs)(h1:1<=n)(h2:n<=1000):
 Calls Tryz.prog 204 #[.slice A n c] w λe w'=>e=.returned (.int .i64 (mnL xs))/\Below w.heap.size w w':=by
 have hl:=hs.len
 obtain⟨b,o,x0,rfl,hb,hx0,y0⟩:=hs.ltI (show 0<n by omega)
 rw[Nat.add_zero]at y0
 have hp:0<n:=by omega
 have g0:¬((n:Int)<1):=by omega
 have Hs:=Lib.hid hs
 have Hl:=Lib.hid hl
 have hst:mnL (xs.take 1)=x0:=by
  cases xs with
  |nil=>simp at hx0
  |cons y l=>simp at hx0;subst hx0;rfl
 have Hst:=Lib.hid hst
 clear hs hl hx0 hst
 go_enter Tryz.func204,Tryz.ntmps204
 go_wp2_with fail
 refine lpn (λq a W=>a.defers=[]/\∃k:Nat,k+1+q=n/\Below w.heap.size w W/\Fits (some (.slice (some ⟨b,o,none⟩) n c)::none::none::some (.int .i64 (mnL (xs.take (k+1))))::some (.int .i64 ((k+1:Nat):Int))::none::none::none::none::none::none::none::none::none::none::none::none::none::none::none::none::none::none::none::none::[]) a.tmps.toList) (n-1) ?_ ?_
 ·refine⟨rfl,0,by omega,brefl w,?_⟩
  rw[Hst.out]
  repeat (first|exact ftL|refine ftN ?_|refine ftS ?_)
 clear y0
 intro q a W hI K1 hK
 obtain⟨hds,k,hkq,hB,hfit⟩:=hI
 obtain⟨f',hf'⟩:=ftA hfit
 rw[hds]at hf'
 subst hf'
 clear hfit hds
 simp only[fillP,Nat.reduceAdd]
 have HB:=Lib.hid hB
 obtain⟨m,hm⟩:∃m,mnL (xs.take (k+1))=m:=⟨_,rfl⟩
 rw[hm]
 by_cases hlt:k+1<n
 ·obtain⟨b',o',x,hA',hbb,hx,y0⟩:=(Hs.out.later hB).ltI hlt
  cases hA'
  have hstep:=mnL_take hx
  rw[hm]at hstep
  obtain⟨k',hk'⟩:∃k',k+1=k':=⟨_,rfl⟩
  rw[hk']at hstep y0 hlt ⊢
  have Hq:=Lib.hid (And.intro hkq hk')
  have Hstep:=Lib.hid hstep
  have i1:(k':Int)<(n:Int):=by omega
  have i2:(0:Int)<=(k':Int):=by omega
  have i3:IntKind.i64.wrap ((k':Int)+1)=((k'+1:Nat):Int):=by rw[IntKind.wrap_i64];omega
  clear hkq hm hx hstep hk' hbb hB
  go_wp2
  all_goals
   refine hK _ _ (q-1) (by have:=Hq.out;omega) ⟨rfl,k',by have:=Hq.out;omega,HB.out,?_⟩
   rw[Hstep.out]
   try rw[show min m x=_ from by first|exact Int.min_eq_left (by omega)|exact Int.min_eq_right (by omega)]
   repeat (first|exact ftL|refine ftN ?_|refine ftS ?_)
 ·have hkn:k+1=n:=by omega
  have hme:mnL xs=m:=by rw[<-hm,List.take_of_length_le (by have:=Hl.out;omega)]
  rw[hkn]
  have Hme:=Lib.hid hme
  clear hlt hkq hm hkn hB hme
  go_wp2
  go_ret
  exact⟨by rw[Hme.out];rfl,HB.out⟩
set_option maxRecDepth 100000 in
set_option maxHeartbeats 1000000 in
theorem max_ok(A:Option Addr)(n c:Nat)(xs:List Int)(w:World)(hs:Sl 1 encI w w.heap.size A n c xs)(h1:1<=n)(h2:n<=1000):
 Calls Tryz.prog 205 #[.slice A n c] w λe w'=>e=.returned (.int .i64 (mxL xs))/\Below w.heap.size w w':=by
 have hl:=hs.len
 obtain⟨b,o,x0,rfl,hb,hx0,y0⟩:=hs.ltI (show 0<n by omega)
 rw[Nat.add_zero]at y0
 have hp:0<n:=by omega
 have g0:¬((n:Int)<1):=by omega
 have Hs:=Lib.hid hs
 have Hl:=Lib.hid hl
 have hst:mxL (xs.take 1)=x0:=by
  cases xs with
  |nil=>simp at hx0
  |cons y l=>simp at hx0;subst hx0;rfl
 have Hst:=Lib.hid hst
 clear hs hl hx0 hst
 go_enter Tryz.func205,Tryz.ntmps205
 go_wp2_with fail
 refine lpn (λq a W=>a.defers=[]/\∃k:Nat,k+1+q=n/\Below w.heap.size w W/\Fits (some (.slice (some ⟨b,o,none⟩) n c)::none::none::some (.int .i64 (mxL (xs.take (k+1))))::some (.int .i64 ((k+1:Nat):Int))::none::none::none::none::none::none::none::none::none::none::none::none::none::none::none::none::none::none::none::none::[]) a.tmps.toList) (n-1) ?_ ?_
 ·refine⟨rfl,0,by omega,brefl w,?_⟩
  rw[Hst.out]
  repeat (first|exact ftL|refine ftN ?_|refine ftS ?_)
 clear y0
 intro q a W hI K1 hK
 obtain⟨hds,k,hkq,hB,hfit⟩:=hI
 obtain⟨f',hf'⟩:=ftA hfit
 rw[hds]at hf'
 subst hf'
 clear hfit hds
 simp only[fillP,Nat.reduceAdd]
 have HB:=Lib.hid hB
 obtain⟨m,hm⟩:∃m,mxL (xs.take (k+1))=m:=⟨_,rfl⟩
 rw[hm]
 by_cases hlt:k+1<n
 ·obtain⟨b',o',x,hA',hbb,hx,y0⟩:=(Hs.out.later hB).ltI hlt
  cases hA'
  have hstep:=mxL_take hx
  rw[hm]at hstep
  obtain⟨k',hk'⟩:∃k',k+1=k':=⟨_,rfl⟩
  rw[hk']at hstep y0 hlt ⊢
  have Hq:=Lib.hid (And.intro hkq hk')
  have Hstep:=Lib.hid hstep
  have i1:(k':Int)<(n:Int):=by omega
  have i2:(0:Int)<=(k':Int):=by omega
  have i3:IntKind.i64.wrap ((k':Int)+1)=((k'+1:Nat):Int):=by rw[IntKind.wrap_i64];omega
  clear hkq hm hx hstep hk' hbb hB
  go_wp2
  all_goals
   refine hK _ _ (q-1) (by have:=Hq.out;omega) ⟨rfl,k',by have:=Hq.out;omega,HB.out,?_⟩
   rw[Hstep.out]
   try rw[show max m x=_ from by first|exact Int.max_eq_left (by omega)|exact Int.max_eq_right (by omega)]
   repeat (first|exact ftL|refine ftN ?_|refine ftS ?_)
 ·have hkn:k+1=n:=by omega
  have hme:mxL xs=m:=by rw[<-hm,List.take_of_length_le (by have:=Hl.out;omega)]
  rw[hkn]
  have Hme:=Lib.hid hme
  clear hlt hkq hm hkn hB hme
  go_wp2
  go_ret
  exact⟨by rw[Hme.out];rfl,HB.out⟩
end Go.Proofs.YtifehdoghfnhoaaGreatDoor.Pa
namespace Go.Proofs.YtifehdoghfnhoaaGreatDoor.Pa
open Go.RowKit Go.Shelf Go.Proofs.YtifehdoghfnhoaaGreatDoor.C
structure Kn(W:World)(T:Nat)(KA:Option Addr)(kn kc:Nat)(ks:List (Nat×Nat)):Prop where
 lt:T<W.heap.size
 c2:W.cell? ⟨T,2,none⟩=some (.slice KA kn kc)
 sl:Sl 2 encCl W W.heap.size KA kn kc ks
theorem Kn.later{W W':World}{T:Nat}{KA:Option Addr}{kn kc:Nat}{ks:List (Nat×Nat)}(h:Kn W T KA kn kc ks)(hb:Below W.heap.size W W'):Kn W' T KA kn kc ks:=⟨Nat.lt_of_lt_of_le h.lt hb.size,(hb.cell (p:=⟨T,2,none⟩) h.lt).trans h.c2,h.sl.later hb⟩
theorem ltCl{W:World}{B:Nat}{A:Option Addr}{n c:Nat}{xs:List (Nat×Nat)}(h:Sl 2 encCl W B A n c xs){i:Nat}(hi:i<n):∃b o x,A=some ⟨b,o,none⟩/\b<B/\xs[i]? =some x/\W.cell? ⟨b,o+i*2,none⟩=some (.int .i64 (x.1:Nat))/\W.cell? ⟨b,o+i*2+1,none⟩=some (.int .i64 (x.2:Nat)):=by
 obtain⟨b,o,r,hA,hB,hx,hc⟩:=h.lt hi
 exact⟨b,o,r,hA,hB,hx,by simpa using hc 0 _ rfl,by simpa using hc 1 _ rfl⟩
def IS(xs:List Int)(v:Value)(W:World):Prop:=∃A c,v=.slice A xs.length c/\Sl 1 encI W W.heap.size A xs.length c xs/\(xs=[]->A=none)
theorem IS.stab(xs:List Int):∀v W W',Gr W W'->IS xs v W->IS xs v W':=λ_ _ _ hG⟨A,c,h1,h2,h3⟩=>⟨A,c,h1,h2.later hG,h3⟩
theorem IS.nil(W:World):IS [] (.slice none 0 0) W:=⟨none,0,rfl,Sl.nil_,λ_=>rfl⟩
def OneI(x:Int)(v:Value)(W:World):Prop:=∃g,v=.slice (some ⟨g,0,none⟩) 1 1/\g<W.heap.size/\W.cell? ⟨g,0,none⟩=some (.int .i64 x)
theorem OneI.stab{x:Int}:∀v W W',Gr W W'->OneI x v W->OneI x v W':=λ_ _ _ hG⟨g,h1,h3,h4⟩=>⟨g,h1,Nat.lt_of_lt_of_le h3 hG.size,(hG.cell (p:=⟨g,0,none⟩) h3).trans h4⟩
theorem one_newsI{W:World}{g:Nat}{x:Int}(h:W.cell? ⟨g,0,none⟩=some (.int .i64 x)):∀j u,[Value.int .i64 x][j]? =some u->W.cell? ((⟨g,0,none⟩:Addr).add j)=some u:=by
 intro j u hu
 obtain rfl:j=0:=by
  have:=(List.getElem?_eq_some_iff.1 hu).1
  simp at this
  omega
 rw[show(⟨g,0,none⟩:Addr).add 0=⟨g,0,none⟩from rfl,h]
 simpa using hu
theorem app_full{W:World}{g n:Nat}{A:Option Addr}{c:Nat}{xs:List Int}{x:Int}(ty:TypeId)(hs:Sl 1 encI W W.heap.size A n c xs)(h0:xs=[]->A=none)(hg:W.cell? ⟨g,0,none⟩=some (.int .i64 x))(h1:n<=1000):
 ∃v' W',(Builtin.append_ #[43,43] ty #[.slice A n n,.slice (some ⟨g,0,none⟩) 1 1]).run Tryz.prog W=.ok v' W'/\(Below W.heap.size W W'/\IS (xs++[x]) v' W'):=by
 obtain⟨i0,hi0,hz0,hz1,hz2⟩:=info_parts info_int
 have hl:=hs.len
 by_cases hn:n=0
 ·subst hn
  have hx:xs=[]:=List.length_eq_zero_iff.1 hl
  obtain rfl:=h0 hx
  subst hx
  obtain⟨v',W',e1,e2,e3,_⟩:=run_append_own (P:=Tryz.prog) W 0 43 ty 3 i0 (.int .i64 0) 1 8 und_ints hi0 hz0 hz1 hz2 rfl (by decide) (.slice none 0 0) 0 [] (World.ownsRow_nil W 0 3 1) ⟨g,0,none⟩ 1 1 [.int .i64 x] rfl (one_newsI hg) (by simp[Value.oneCell']) (by simp only[maxLen];omega) (by omega) (by omega)
  refine⟨v',W',e1,⟨e3.os,e3.tape,e3.output,e3.size,λk hk=>e3.block k hk (by simp[Value.ownBlock])⟩,?_⟩
  obtain⟨A',c',hv,hsl⟩:=own_slI (ts:=[x]) (by simpa using e2) rfl
  exact⟨A',c',hv,hsl,λh=>by simp at h⟩
 ·obtain⟨b,o,rfl,_,_⟩:=hs.at_ (by omega)
  obtain⟨v',W',e1,e2,e3⟩:=run_append_arg_grows (P:=Tryz.prog) W 43 ty 3 i0 (.int .i64 0) 1 8 und_ints hi0 hz0 hz1 hz2 rfl (by decide) ⟨b,o,none⟩ n n (xs.map (Value.int .i64)) (by simp[hl]) (sl_news hs (by omega)) ⟨g,0,none⟩ 1 1 [.int .i64 x] rfl (one_newsI hg) (by omega) (by simp only[maxLen];omega) (by omega)
  refine⟨v',W',e1,⟨e3.os,e3.tape,e3.output,e3.size,λk hk=>e3.block k hk (by simp)⟩,?_⟩
  obtain⟨A',c',hv,hsl⟩:=own_slI (ts:=xs++[x]) (n:=n+1) (by simpa using e2) (by simp[hl])
  have hll:(xs++[x]).length=n+1:=by simp[hl]
  exact⟨A',c',by rw[hll];exact hv,by rw[hll];exact hsl,λh=>by simp at h⟩
theorem bit_and(d i:Nat)(h:d<1024):bits .and .i64 ((d:Int) / 2^i) 1=((d / 2^i % 2:Nat):Int):=by
 have h1:=(bits_nat .i64 63 (by decide) (λn h0 h1=>by rw[IntKind.wrap_i64];omega) (d / 2^i) 1 (Nat.lt_of_le_of_lt (Nat.div_le_self _ _) (by omega)) (by decide)).1
 rw[Nat.and_one_is_mod]at h1
 rw[<-h1]
 simp
def bitS(b i:Nat):Bool:=decide (b / 2^i % 2=1)
def selL(f:Nat×Nat->Nat)(ks:List (Nat×Nat))(sb j:Nat):List Int:=((List.range j).filter (bitS sb)).map λi=>((f (ks.getD i (0,0)):Nat):Int)
theorem selL_yes{f:Nat×Nat->Nat}{ks:List (Nat×Nat)}{sb j:Nat}{x:Nat×Nat}(h:bitS sb j=true)(hx:ks[j]? =some x):selL f ks sb (j+1)=selL f ks sb j++[((f x:Nat):Int)]:=by
 simp[selL,List.range_succ,h,List.getD,hx]
theorem selL_no{f:Nat×Nat->Nat}{ks:List (Nat×Nat)}{sb j:Nat}(h:bitS sb j=false):selL f ks sb (j+1)=selL f ks sb j:=by
 simp[selL,List.range_succ,h]
theorem selL_len(f:Nat×Nat->Nat)(ks:List (Nat×Nat))(sb j:Nat):(selL f ks sb j).length<=j:=by
 unfold selL
 have:=List.length_filter_le (bitS sb) (List.range j)
 simpa using this
theorem selL_mem{f:Nat×Nat->Nat}{ks:List (Nat×Nat)}{sb j:Nat}{y:Int}(h:y∈selL f ks sb j):∃i,i<j/\bitS sb i=true/\y=((f (ks.getD i (0,0)):Nat):Int):=by
 obtain⟨i,hi,rfl⟩:=List.mem_map.1 h
 obtain⟨h1,h2⟩:=List.mem_filter.1 hi
 exact⟨i,List.mem_range.1 h1,h2,rfl⟩
theorem selL_length(f g:Nat×Nat->Nat)(ks:List (Nat×Nat))(sb j:Nat):(selL f ks sb j).length=(selL g ks sb j).length:=by simp[selL]
theorem fold_min:∀(l:List Int)(a:Int),(∀y∈a::l,(0:Int)<=y/\y<=6)->(0<=l.foldl (λa b=>min a b) a/\l.foldl (λa b=>min a b) a<=6)
 |[],a,h=>h a (by simp)
 |b::l,a,h=>fold_min l (min a b) (λy hy=>by
  rcases List.mem_cons.1 hy with rfl|hy
  ·have h1:=h a (by simp)
   have h2:=h b (by simp)
   omega
  ·exact h y (by simp[hy]))
theorem fold_max:∀(l:List Int)(a:Int),(∀y∈a::l,(0:Int)<=y/\y<=6)->(0<=l.foldl (λa b=>max a b) a/\l.foldl (λa b=>max a b) a<=6)
 |[],a,h=>h a (by simp)
 |b::l,a,h=>fold_max l (max a b) (λy hy=>by
  rcases List.mem_cons.1 hy with rfl|hy
  ·have h1:=h a (by simp)
   have h2:=h b (by simp)
   omega
  ·exact h y (by simp[hy]))
theorem mn_bound{l:List Int}(h:∀y∈l,(0:Int)<=y/\y<=6):0<=mnL l/\mnL l<=6:=by
 cases l with
 |nil=>decide
 |cons a l=>exact fold_min l a h
theorem mx_bound{l:List Int}(h:∀y∈l,(0:Int)<=y/\y<=6):0<=mxL l/\mxL l<=6:=by
 cases l with
 |nil=>decide
 |cons a l=>exact fold_max l a h
theorem selL_bound{f:Nat×Nat->Nat}{ks:List (Nat×Nat)}{sb j:Nat}(h:∀x∈ks,f x<=6)(h0:f (0,0)<=6):∀y∈selL f ks sb j,(0:Int)<=y/\y<=6:=by
 intro y hy
 obtain⟨i,_,_,rfl⟩:=selL_mem hy
 have:f (ks.getD i (0,0))<=6:=by
  rw[List.getD_eq_getElem?_getD]
  cases hx:ks[i]? with
  |none=>exact h0
  |some x=>exact h x (List.mem_of_getElem? hx)
 omega
structure LW3(w W:World)(T:Nat)(KA:Option Addr)(kn kc:Nat)(ks:List (Nat×Nat))(sb:Nat):Prop where
 bel:Below w.heap.size w W
 kn:Kn W T KA kn kc ks
 s0:Blk W w.heap.size 156 #[.int .i64 (sb:Nat)]
 r0:Blk W (w.heap.size+1) 49 #[.int .i64 0,.int .i64 0,.int .i64 0,.int .i64 0]
theorem LW3.later{w W W':World}{T:Nat}{KA:Option Addr}{kn kc:Nat}{ks:List (Nat×Nat)}{sb:Nat}(h:LW3 w W T KA kn kc ks sb)(hb:Below W.heap.size W W'):LW3 w W' T KA kn kc ks sb:=⟨Below.later h.bel hb,h.kn.later hb,h.s0.later hb,h.r0.later hb⟩
structure LC(w W:World)(C T:Nat)(KA:Option Addr)(kn kc:Nat)(ks:List (Nat×Nat))(sb:Nat)(x:Nat×Nat):Prop where
 lw:LW3 w W T KA kn kc ks sb
 cell:Blk W C 90 #[.int .i64 (x.1:Nat),.int .i64 (x.2:Nat)]
theorem LC.later{w W W':World}{C T:Nat}{KA:Option Addr}{kn kc:Nat}{ks:List (Nat×Nat)}{sb:Nat}{x:Nat×Nat}(h:LC w W C T KA kn kc ks sb x)(hb:Below W.heap.size W W'):LC w W' C T KA kn kc ks sb x:=⟨h.lw.later hb,h.cell.later hb⟩
set_option maxRecDepth 100000 in
set_option maxHeartbeats 8000000 in
theorem least_ok(T:Nat)(KA:Option Addr)(kn kc:Nat)(ks:List (Nat×Nat))(sb:Nat)(w:World)(hk:Kn w T KA kn kc ks)(h10:kn<=10)(hsb:sb<1024)(hne:selL Prod.fst ks sb kn≠[])(hbd:∀x∈ks,x.1<=6/\x.2<=6):
 Calls Tryz.prog 106 #[.pointer (some ⟨T,0,none⟩),.agg #[.int .i64 (sb:Nat)]] w λe w'=>e=.returned (.agg #[.int .i64 (mnL (selL Prod.fst ks sb kn)),.int .i64 (mnL (selL Prod.snd ks sb kn)),.int .i64 (mxL (selL Prod.fst ks sb kn)-mnL (selL Prod.fst ks sb kn)+1),.int .i64 (mxL (selL Prod.snd ks sb kn)-mnL (selL Prod.snd ks sb kn)+1)])/\Below w.heap.size w w':=by
 have hB:=balloc (balloc (brefl w) (.cells #[.int .i64 (sb:Nat)] 156)) (.cells #[.int .i64 0,.int .i64 0,.int .i64 0,.int .i64 0] 49)
 have hr:=Blk.new (w.alloc (.cells #[.int .i64 (sb:Nat)] 156)) 49 #[.int .i64 0,.int .i64 0,.int .i64 0,.int .i64 0]
 rw[World.size_alloc]at hr
 have HL0:=Lib.hid (show LW3 w _ T KA kn kc ks sb from⟨hB,hk.later hB,(Blk.new w _ _).alloc _,hr⟩)
 have HI0:=Lib.hid (show selL Prod.fst ks sb 0=[]/\selL Prod.snd ks sb 0=[]from⟨rfl,rfl⟩)
 have Hbd:=Lib.hid hbd
 have Hne:=Lib.hid hne
 have Hlen:=Lib.hid hk.sl.len
 have c0:=HL0.out.kn.c2
 have c1:=HL0.out.kn.lt
 clear hB hr hk hbd hne
 go_enter Tryz.func106,Tryz.ntmps106
 go_wp2_with fail
 clear c0 c1
 refine lpn (λq a W=>a.defers=[]/\∃(i:Nat)(v5 v6:Value),i+q=kn/\LW3 w W T KA kn kc ks sb/\IS (selL Prod.fst ks sb i) v5 W/\IS (selL Prod.snd ks sb i) v6 W/\Fits (some (.pointer (some ⟨T,0,none⟩))::none::none::some (.pointer (some ⟨w.heap.size,0,none⟩))::some (.pointer (some ⟨w.heap.size+1,0,none⟩))::some (v5)::some (v6)::none::none::none::none::none::none::none::some (.slice KA kn kc)::some (.int .i64 (kn:Nat))::some (.int .i64 (i:Nat))::none::none::none::none::none::none::none::none::none::none::none::none::none::none::none::none::none::none::none::none::none::none::none::none::none::none::none::none::none::none::none::none::none::none::none::none::none::none::none::none::none::none::none::none::none::none::none::none::[]) a.tmps.toList) kn ?_ ?_
 ·refine⟨rfl,0,_,_,by omega,HL0.out,by rw[HI0.out.1];exact IS.nil _,by rw[HI0.out.2];exact IS.nil _,?_⟩
  repeat (first|exact ftL|refine ftN ?_|refine ftS ?_)
 clear HL0 HI0
 intro q a W hI K1 hK
 obtain⟨hds,i,v5,v6,hiq,hL,h5,h6,hfit⟩:=hI
 obtain⟨f',hf'⟩:=ftA hfit
 rw[hds]at hf'
 subst hf'
 clear hfit hds
 simp only[fillP,Nat.reduceAdd]
 have HL:=Lib.hid hL
 have H5:=Lib.hid h5
 have H6:=Lib.hid h6
 by_cases hlt:i<kn
 ·obtain⟨b,o,x,rfl,hbb,hx,x0,x1⟩:=ltCl hL.kn.sl hlt
  have s0:=hL.s0.cell 0
  have s1:=hL.s0.lt
  have i1:(i:Int)<(kn:Int):=by omega
  have i2:(0:Int)<=(i:Int):=by omega
  have i3:IntKind.i64.wrap ((i:Int)+1)=((i+1:Nat):Int):=by rw[IntKind.wrap_i64];omega
  have Hb:=Lib.hid hbb
  have Hx:=Lib.hid hx
  have Hiq:=Lib.hid (show i+q=kn/\kn<=10 from⟨hiq,h10⟩)
  clear hL h5 h6 hx hbb
  have hband:=bit_and sb i hsb
  obtain⟨d,hd⟩:∃d,sb / 2^i % 2=d:=⟨_,rfl⟩
  rw[hd]at hband
  by_cases hd1:d=1
  ·have hB:bitS sb i=true:=by unfold bitS;rw[hd,hd1];rfl
   subst hd1
   have Hd:=Lib.hid hB
   clear hd hB
   go_wp2_with fail
   have HC:=Lib.hid (show LC w _ W.heap.size T (some ⟨b,o,none⟩) kn kc ks sb x from⟨HL.out.later (balloc (brefl W) _),Blk.new W 90 #[.int .i64 (x.1:Nat),.int .i64 (x.2:Nat)]⟩)
   clear HL x0 x1 s0 s1
   obtain⟨A6,c6,rfl,hsl6,hnil6⟩:=H5.out
   have HSl6:=Lib.hid hsl6
   have HNil6:=Lib.hid hnil6
   have hcap6:=hsl6.cap
   clear hsl6 hnil6 H5
   refine dag 11 (by kernel_rfl) (by kernel_rfl) (.is ?_::.is ?_::.is ?_::.is ?_::.is ?_::.is ?_::.is ?_::.is ?_::.like (OneI ((Prod.fst x:Nat):Int))::.like (IS (selL Prod.fst ks sb (i+1)))::.like (IS (selL Prod.fst ks sb (i+1)))::[]) rfl ?st6 ?ob6
   case st6=>repeat (first|exact stab_nil|refine stab_is ?_|refine stab_like OneI.stab ?_|refine stab_like (IS.stab _) ?_)
   case ob6=>
   intro env V6 hG6
   have HG6:=Lib.hid hG6
   have HC6:=Lib.hid (show LC w V6 W.heap.size T (some ⟨b,o,none⟩) kn kc ks sb x from HC.out.later hG6)
   have y0:=HC6.out.cell.cell 0
   have y1:=HC6.out.cell.cell 1
   have y2:=HC6.out.cell.lt
   have HT6:=Lib.hid (HSl6.out.later (Below.later (balloc (brefl W) _) hG6))
   iterate 8 (refine obI ?_ ?_;unfold dsA;go_simp;(try go_bits);(first|(refine⟨brefl _,?_⟩;rfl)|rfl);intro K hK;go_simp;refine hK _ ?_;clear hK K)
   refine obls_like (λ_=>?_) ?_
   ·unfold dsA
    go_simp
    have hbn:=Blk.new V6 3 #[.int .i64 ((Prod.fst x:Nat):Int)]
    exact⟨balloc (brefl _) _,_,rfl,hbn.lt,hbn.cell 0⟩
   intro K hK
   go_simp
   refine hK _ ?_
   clear hK K
   refine obls_like (λhl=>?_) ?_
   ·obtain⟨g,hg0,hg1,hg2⟩:OneI ((Prod.fst x:Nat):Int) (env 8) V6:=hl ⟨8,.data⟩ (by simp) rfl
    refine app_of_run rfl (.tmp 32) (.tmp 35) 43 rfl rfl hg0 ?_
    rw[selL_yes Hd.out Hx.out]
    exact app_full _ HT6.out HNil6.out hg2 (by have:=selL_len Prod.fst ks sb i;have:=Hiq.out;omega)
   intro K hK
   go_simp
   refine hK _ ?_
   clear hK K
   refine obls_like (λhl=>?_) ?_
   ·have h3:IS (selL Prod.fst ks sb (i+1)) (env 9) V6:=hl ⟨9,.data⟩ (by simp) rfl
    unfold dsA
    go_simp
    exact brefl V6
   intro K hK
   go_simp
   refine hK _ ?_
   clear hK K
   refine obN (λhok=>?_)
   have HR6:=Lib.hid (show IS (selL Prod.fst ks sb (i+1)) (env 10) V6 from hok 10 _ rfl)
   obtain⟨u6,hu6⟩:∃u,env 10=u:=⟨_,rfl⟩
   rw[hu6]at HR6 ⊢
   clear hok hu6 y0 y1 y2
   go_wp2_with fail
   obtain⟨A7,c7,rfl,hsl7,hnil7⟩:=H6.out
   have HSl7:=Lib.hid hsl7
   have HNil7:=Lib.hid hnil7
   have hcap7:=hsl7.cap
   clear hsl7 hnil7 H6
   refine dag 11 (by kernel_rfl) (by kernel_rfl) (.is ?_::.is ?_::.is ?_::.is ?_::.is ?_::.is ?_::.is ?_::.is ?_::.like (OneI ((Prod.snd x:Nat):Int))::.like (IS (selL Prod.snd ks sb (i+1)))::.like (IS (selL Prod.snd ks sb (i+1)))::[]) rfl ?st7 ?ob7
   case st7=>repeat (first|exact stab_nil|refine stab_is ?_|refine stab_like OneI.stab ?_|refine stab_like (IS.stab _) ?_)
   case ob7=>
   intro env V7 hG7
   have HG7:=Lib.hid hG7
   have HC7:=Lib.hid (show LC w V7 W.heap.size T (some ⟨b,o,none⟩) kn kc ks sb x from HC6.out.later hG7)
   have y0:=HC7.out.cell.cell 0
   have y1:=HC7.out.cell.cell 1
   have y2:=HC7.out.cell.lt
   have HT7:=Lib.hid (HSl7.out.later (Below.later (Below.later (balloc (brefl W) _) HG6.out) hG7))
   iterate 8 (refine obI ?_ ?_;unfold dsA;go_simp;(try go_bits);(first|(refine⟨brefl _,?_⟩;rfl)|rfl);intro K hK;go_simp;refine hK _ ?_;clear hK K)
   refine obls_like (λ_=>?_) ?_
   ·unfold dsA
    go_simp
    have hbn:=Blk.new V7 3 #[.int .i64 ((Prod.snd x:Nat):Int)]
    exact⟨balloc (brefl _) _,_,rfl,hbn.lt,hbn.cell 0⟩
   intro K hK
   go_simp
   refine hK _ ?_
   clear hK K
   refine obls_like (λhl=>?_) ?_
   ·obtain⟨g,hg0,hg1,hg2⟩:OneI ((Prod.snd x:Nat):Int) (env 8) V7:=hl ⟨8,.data⟩ (by simp) rfl
    refine app_of_run rfl (.tmp 42) (.tmp 45) 43 rfl rfl hg0 ?_
    rw[selL_yes Hd.out Hx.out]
    exact app_full _ HT7.out HNil7.out hg2 (by have:=selL_len Prod.snd ks sb i;have:=Hiq.out;omega)
   intro K hK
   go_simp
   refine hK _ ?_
   clear hK K
   refine obls_like (λhl=>?_) ?_
   ·have h3:IS (selL Prod.snd ks sb (i+1)) (env 9) V7:=hl ⟨9,.data⟩ (by simp) rfl
    unfold dsA
    go_simp
    exact brefl V7
   intro K hK
   go_simp
   refine hK _ ?_
   clear hK K
   refine obN (λhok=>?_)
   have HR7:=Lib.hid (show IS (selL Prod.snd ks sb (i+1)) (env 10) V7 from hok 10 _ rfl)
   obtain⟨u7,hu7⟩:∃u,env 10=u:=⟨_,rfl⟩
   rw[hu7]at HR7 ⊢
   clear hok hu7 y0 y1 y2
   go_wp2_with fail
   have:=Hiq.out
   refine hK _ _ (q-1) (by omega) ⟨rfl,i+1,u6,u7,by omega,HC7.out.lw,IS.stab _ _ _ _ HG7.out HR6.out,HR7.out,?_⟩
   repeat (first|exact ftL|refine ftN ?_|refine ftS ?_)
  ·have hB:bitS sb i=false:=by unfold bitS;rw[hd];exact decide_eq_false hd1
   have hd0:d=0:=by omega
   subst hd0
   have Hd:=Lib.hid hB
   clear hd hB hd1
   go_wp2_with fail
   have:=Hiq.out
   refine hK _ _ (q-1) (by omega) ⟨rfl,i+1,v5,v6,by omega,HL.out.later (balloc (brefl W) _),by rw[selL_no Hd.out];exact IS.stab _ _ _ _ (balloc (brefl W) _) H5.out,by rw[selL_no Hd.out];exact IS.stab _ _ _ _ (balloc (brefl W) _) H6.out,?_⟩
   repeat (first|exact ftL|refine ftN ?_|refine ftS ?_)
 ·have hi:i=kn:=by omega
  subst hi
  obtain⟨A5,c5,rfl,hs5,_⟩:=h5
  obtain⟨A6,c6,rfl,hs6,_⟩:=h6
  have HS5:=Lib.hid hs5
  have HS6:=Lib.hid hs6
  clear hL hs5 hs6 H5 H6
  have hn1:1<=(selL Prod.fst ks sb i).length:=List.length_pos_iff.2 Hne.out
  have hn2:1<=(selL Prod.snd ks sb i).length:=by rw[selL_length Prod.snd Prod.fst];exact hn1
  have hm1:=selL_len Prod.fst ks sb i
  have hm2:=selL_len Prod.snd ks sb i
  have hp1:=mn_bound (selL_bound (f:=Prod.fst) (ks:=ks) (sb:=sb) (j:=i) (λx hx=>(Hbd.out x hx).1) (by decide))
  have hp2:=mn_bound (selL_bound (f:=Prod.snd) (ks:=ks) (sb:=sb) (j:=i) (λx hx=>(Hbd.out x hx).2) (by decide))
  have hq1:=mx_bound (selL_bound (f:=Prod.fst) (ks:=ks) (sb:=sb) (j:=i) (λx hx=>(Hbd.out x hx).1) (by decide))
  have hq2:=mx_bound (selL_bound (f:=Prod.snd) (ks:=ks) (sb:=sb) (j:=i) (λx hx=>(Hbd.out x hx).2) (by decide))
  obtain⟨l1,hl1⟩:∃l,selL Prod.fst ks sb i=l:=⟨_,rfl⟩
  obtain⟨l2,hl2⟩:∃l,selL Prod.snd ks sb i=l:=⟨_,rfl⟩
  rw[hl1]at HS5 hn1 hm1 hp1 hq1
  rw[hl2]at HS6 hn2 hm2 hp2 hq2
  have HL1:=Lib.hid hl1
  have HL2:=Lib.hid hl2
  rw[hl1,hl2]
  clear hl1 hl2 Hne
  have Hmin1:=Lib.hid (λV(h:Below W.heap.size W V)=>min_ok A5 l1.length c5 l1 V (HS5.out.later h) hn1 (by omega))
  have Hmin2:=Lib.hid (λV(h:Below W.heap.size W V)=>min_ok A6 l2.length c6 l2 V (HS6.out.later h) hn2 (by omega))
  have Hmax1:=Lib.hid (λV(h:Below W.heap.size W V)=>max_ok A5 l1.length c5 l1 V (HS5.out.later h) hn1 (by omega))
  have Hmax2:=Lib.hid (λV(h:Below W.heap.size W V)=>max_ok A6 l2.length c6 l2 V (HS6.out.later h) hn2 (by omega))
  obtain⟨m1,hE1⟩:∃m,mnL l1=m:=⟨_,rfl⟩
  obtain⟨m2,hE2⟩:∃m,mnL l2=m:=⟨_,rfl⟩
  obtain⟨x1,hE3⟩:∃m,mxL l1=m:=⟨_,rfl⟩
  obtain⟨x2,hE4⟩:∃m,mxL l2=m:=⟨_,rfl⟩
  rw[hE1]at hp1 Hmin1
  rw[hE2]at hp2 Hmin2
  rw[hE3]at hq1 Hmax1
  rw[hE4]at hq2 Hmax2
  have HE:=Lib.hid (And.intro hE1 (And.intro hE2 (And.intro hE3 hE4)))
  have k1:IntKind.i64.wrap (x1-m1)=x1-m1:=by rw[IntKind.wrap_i64];omega
  have k2:IntKind.i64.wrap (x2-m2)=x2-m2:=by rw[IntKind.wrap_i64];omega
  have k3:IntKind.i64.wrap (x1-m1+1)=x1-m1+1:=by rw[IntKind.wrap_i64];omega
  have k4:IntKind.i64.wrap (x2-m2+1)=x2-m2+1:=by rw[IntKind.wrap_i64];omega
  clear hE1 hE2 hE3 hE4 hp1 hp2 hq1 hq2 hn1 hn2 hm1 hm2 HS5 HS6 Hbd
  go_wp2_with fail
  refine(Hmin1.out W (brefl W)).mono ?_
  rintro e w1⟨rfl,hb1⟩
  have HB1:=Lib.hid hb1
  clear hb1
  go_wp2_with fail
  refine(Hmin2.out w1 HB1.out).mono ?_
  rintro e w2⟨rfl,hb2⟩
  have HB2:=Lib.hid (Below.later HB1.out hb2)
  clear hb2 HB1
  go_wp2_with fail
  refine(Hmax1.out w2 HB2.out).mono ?_
  rintro e w3⟨rfl,hb3⟩
  have HB3:=Lib.hid (Below.later HB2.out hb3)
  clear hb3 HB2
  go_wp2_with fail
  refine(Hmax2.out w3 HB3.out).mono ?_
  rintro e w4⟨rfl,hb4⟩
  have HL4:=Lib.hid (HL.out.later (Below.later HB3.out hb4))
  clear hb4 HB3 Hmin1 Hmin2 Hmax1 Hmax2 HL
  have r1:=HL4.out.r0.lt
  have r2:=HL4.out.r0.cell 0
  have r3:=HL4.out.r0.cell 1
  have r4:=HL4.out.r0.cell 2
  have r5:=HL4.out.r0.cell 3
  have q1:=HL4.out.r0.frozen 0
  have q2:=HL4.out.r0.frozen 1
  have q3:=HL4.out.r0.frozen 2
  have q4:=HL4.out.r0.frozen 3
  go_wp2_with fail
  have hz:=(((HL4.out.r0.set 0 (.int .i64 m1)).set 1 (.int .i64 m2)).set 2 (.int .i64 (x1-m1+1))).set 3 (.int .i64 (x2-m2+1))
  have z0:=hz.cell 0
  have z1:=hz.cell 1
  have z2:=hz.cell 2
  have z3:=hz.cell 3
  have hbe:=(((HL4.out.bel.setCell (p:=⟨w.heap.size+1,0,none⟩) (by simp) (.int .i64 m1)).setCell (p:=⟨w.heap.size+1,1,none⟩) (by simp) (.int .i64 m2)).setCell (p:=⟨w.heap.size+1,2,none⟩) (by simp) (.int .i64 (x1-m1+1))).setCell (p:=⟨w.heap.size+1,3,none⟩) (by simp) (.int .i64 (x2-m2+1))
  have hl1:=HL1.out
  have hl2:=HL2.out
  obtain⟨hE1,hE2,hE3,hE4⟩:=HE.out
  subst hl1
  subst hl2
  rw[hE1,hE2,hE3,hE4]
  refine bodyPost_ret (v:=.agg #[.int .i64 m1,.int .i64 m2,.int .i64 (x1-m1+1),.int .i64 (x2-m2+1)]) ?_ rfl ⟨rfl,hbe⟩
  simp[results,Tryz.results106,go_sem,z0,z1,z2,z3]
end Go.Proofs.YtifehdoghfnhoaaGreatDoor.Pa
namespace Go.Proofs.YtifehdoghfnhoaaGreatDoor.Pa
open Go.RowKit Go.Shelf Go.Proofs.YtifehdoghfnhoaaGreatDoor.C
structure BP where
 rb:Nat
 ro:Nat
 rn:Nat
 rc:Nat
 rs:ByteArray
 most:Nat
 F:Nat->Nat
 KA:Option Addr
 kc:Nat
 ks:List (Nat×Nat)
structure Be(p:BP)(T:Nat)(W:World):Prop where
 bn:Bn W T p.rb p.ro p.rn p.rc p.rs p.most p.F
 kn:Kn W T p.KA p.ks.length p.kc p.ks
 n10:p.ks.length<=10
 bd:∀x∈p.ks,x.1<=5/\x.2<=5
theorem Be.later{p:BP}{T:Nat}{W W':World}(h:Be p T W)(hb:Below W.heap.size W W'):Be p T W':=⟨h.bn.later hb,h.kn.later hb,h.n10,h.bd⟩
def leastP(ks:List (Nat×Nat))(sb:Nat):Pc:=⟨(mnL (selL Prod.fst ks sb ks.length)).toNat,(mnL (selL Prod.snd ks sb ks.length)).toNat,(mxL (selL Prod.fst ks sb ks.length)-mnL (selL Prod.fst ks sb ks.length)+1).toNat,(mxL (selL Prod.snd ks sb ks.length)-mnL (selL Prod.snd ks sb ks.length)+1).toNat⟩
def lieN(p:BP)(sb:Nat):Nat:=liesE p.rn p.rs.size p.most p.F (nzF p.F) (leastP p.ks sb)
theorem bit_of{sb n:Nat}(h0:0<sb)(hn:sb<2^n):∃i,i<n/\bitS sb i=true:=by
 obtain⟨i,hi⟩:=Nat.exists_testBit_of_ne_zero (x:=sb) (by omega)
 refine⟨i,?_,?_⟩
 ·refine Nat.lt_of_not_le λhle=>?_
  rw[Nat.testBit_lt_two_pow (Nat.lt_of_lt_of_le hn (Nat.pow_le_pow_right (by omega) hle))]at hi
  cases hi
 ·rw[Nat.testBit_eq_decide_div_mod_eq]at hi
  exact hi
theorem selL_ne{f:Nat×Nat->Nat}{ks:List (Nat×Nat)}{sb n:Nat}(h0:0<sb)(hn:sb<2^n):selL f ks sb n≠[]:=by
 obtain⟨i,hi,hb⟩:=bit_of h0 hn
 intro h
 have:((f (ks.getD i (0,0)):Nat):Int)∈selL f ks sb n:=List.mem_map.2 ⟨i,List.mem_filter.2 ⟨List.mem_range.2 hi,hb⟩,rfl⟩
 rw[h]at this
 cases this
theorem fold_min_le:∀(l:List Int)(a:Int),l.foldl (λa b=>min a b) a<=a/\∀y∈l,l.foldl (λa b=>min a b) a<=y
 |[],a=>⟨Int.le_refl a,λy hy=>by cases hy⟩
 |b::l,a=>by
  obtain⟨h1,h2⟩:=fold_min_le l (min a b)
  refine⟨by simp only[List.foldl_cons];omega,λy hy=>?_⟩
  rcases List.mem_cons.1 hy with rfl|hy
  ·simp only[List.foldl_cons];omega
  ·exact h2 y hy
theorem fold_max_le:∀(l:List Int)(a:Int),a<=l.foldl (λa b=>max a b) a/\∀y∈l,y<=l.foldl (λa b=>max a b) a
 |[],a=>⟨Int.le_refl a,λy hy=>by cases hy⟩
 |b::l,a=>by
  obtain⟨h1,h2⟩:=fold_max_le l (max a b)
  refine⟨by simp only[List.foldl_cons];omega,λy hy=>?_⟩
  rcases List.mem_cons.1 hy with rfl|hy
  ·simp only[List.foldl_cons];omega
  ·exact h2 y hy
theorem mn_le{l:List Int}{y:Int}(h:y∈l):mnL l<=y:=by
 cases l with
 |nil=>cases h
 |cons a l=>
  rcases List.mem_cons.1 h with rfl|h
  ·exact(fold_min_le l y).1
  ·exact(fold_min_le l a).2 y h
theorem le_mx{l:List Int}{y:Int}(h:y∈l):y<=mxL l:=by
 cases l with
 |nil=>cases h
 |cons a l=>
  rcases List.mem_cons.1 h with rfl|h
  ·exact(fold_max_le l y).1
  ·exact(fold_max_le l a).2 y h
theorem fold_bd{P:Int->Prop}{f:Int->Int->Int}(hf:∀a b,P a->P b->P (f a b)):∀(l:List Int)(a:Int),P a->(∀y∈l,P y)->P (l.foldl f a)
 |[],_,ha,_=>ha
 |b::l,a,ha,h=>fold_bd hf l (f a b) (hf a b ha (h b (by simp))) (λy hy=>h y (by simp[hy]))
theorem mnx_bd{l:List Int}(hne:l≠[])(h:∀y∈l,(0:Int)<=y/\y<=5):(0<=mnL l/\mnL l<=5)/\(0<=mxL l/\mxL l<=5)/\mnL l<=mxL l:=by
 cases l with
 |nil=>exact absurd rfl hne
 |cons a l=>
  refine⟨?_,?_,Int.le_trans (mn_le (y:=a) (by simp)) (le_mx (by simp))⟩
  ·exact fold_bd (P:=λy=>0<=y/\y<=5) (f:=λa b=>min a b) (λa b _ _=>by constructor<;>omega) l a (h a (by simp)) (λy hy=>h y (by simp[hy]))
  ·exact fold_bd (P:=λy=>0<=y/\y<=5) (f:=λa b=>max a b) (λa b _ _=>by constructor<;>omega) l a (h a (by simp)) (λy hy=>h y (by simp[hy]))
theorem selL_bd{f:Nat×Nat->Nat}{ks:List (Nat×Nat)}{sb j:Nat}(h:∀x∈ks,f x<=5)(h0:f (0,0)<=5):∀y∈selL f ks sb j,(0:Int)<=y/\y<=5:=by
 intro y hy
 obtain⟨i,_,_,rfl⟩:=selL_mem hy
 have:f (ks.getD i (0,0))<=5:=by
  rw[List.getD_eq_getElem?_getD]
  cases hx:ks[i]? with
  |none=>exact h0
  |some x=>exact h x (List.mem_of_getElem? hx)
 omega
structure PcOk(p:Pc):Prop where
 t:p.t<=5
 l:p.l<=5
 r1:1<=p.r
 r6:p.r<=6
 c1:1<=p.c
 c6:p.c<=6
theorem least_bd{ks:List (Nat×Nat)}{sb:Nat}(h0:0<sb)(hn:sb<2^ks.length)(h:∀x∈ks,x.1<=5/\x.2<=5):PcOk (leastP ks sb)/\encPc (leastP ks sb)=[.int .i64 (mnL (selL Prod.fst ks sb ks.length)),.int .i64 (mnL (selL Prod.snd ks sb ks.length)),.int .i64 (mxL (selL Prod.fst ks sb ks.length)-mnL (selL Prod.fst ks sb ks.length)+1),.int .i64 (mxL (selL Prod.snd ks sb ks.length)-mnL (selL Prod.snd ks sb ks.length)+1)]:=by
 obtain⟨a1,a2,a3⟩:=mnx_bd (selL_ne h0 hn) (selL_bd (f:=Prod.fst) (ks:=ks) (sb:=sb) (j:=ks.length) (λx hx=>(h x hx).1) (by decide))
 obtain⟨b1,b2,b3⟩:=mnx_bd (selL_ne h0 hn) (selL_bd (f:=Prod.snd) (ks:=ks) (sb:=sb) (j:=ks.length) (λx hx=>(h x hx).2) (by decide))
 refine⟨⟨?_,?_,?_,?_,?_,?_⟩,?_⟩
 all_goals simp only[leastP,encPc]
 iterate 6 omega
 rw[Int.toNat_of_nonneg a1.1,Int.toNat_of_nonneg b1.1,Int.toNat_of_nonneg (by omega),Int.toNat_of_nonneg (by omega)]
theorem pow_le_1024{n:Nat}(h:n<=10):2^n<=1024:=Nat.pow_le_pow_right (n:=2) (by omega) h
theorem least_be(p:BP)(T sb:Nat)(w:World)(h:Be p T w)(h0:0<sb)(hn:sb<2^p.ks.length):
 Calls Tryz.prog 106 #[.pointer (some ⟨T,0,none⟩),.agg #[.int .i64 (sb:Nat)]] w λe w'=>e=.returned (.agg (encPc (leastP p.ks sb)).toArray)/\Below w.heap.size w w':=by
 rw[(least_bd h0 hn h.bd).2]
 exact least_ok T p.KA p.ks.length p.kc p.ks sb w h.kn h.n10 (Nat.lt_of_lt_of_le hn (pow_le_1024 h.n10)) (selL_ne h0 hn) (λx hx=>⟨Nat.le_succ_of_le (h.bd x hx).1,Nat.le_succ_of_le (h.bd x hx).2⟩)
theorem lies_be(p:BP)(T:Nat)(q:Pc)(w:World)(h:Be p T w)(hq:PcOk q):
 Calls Tryz.prog 32 #[.pointer (some ⟨T,0,none⟩),.agg (encPc q).toArray] w λe w'=>e=.returned (.int .i64 (liesE p.rn p.rs.size p.most p.F (nzF p.F) q:Nat))/\Below w.heap.size w w':=
 lies_ok q (Nat.le_succ_of_le hq.t) (Nat.le_succ_of_le hq.l) hq.r6 hq.c6 w h.bn
def shareP(p:BP)(i k:Nat):Bool:=Nat.beq (lieN p (2^i ||| 2^k)) 0
theorem pair_lt{i k n:Nat}(hi:i<n)(hk:k<n):0<(2^i ||| 2^k)/\(2^i ||| 2^k)<2^n:=by
 have h1:2^i<2^n:=Nat.pow_lt_pow_right (by omega) hi
 have h2:2^k<2^n:=Nat.pow_lt_pow_right (by omega) hk
 refine⟨Nat.lt_of_lt_of_le (Nat.two_pow_pos i) Nat.left_le_or,Nat.or_lt_two_pow h1 h2⟩
theorem or_i64(a b:Nat)(ha:a<1024)(hb:b<1024):bits .or .i64 (a:Int) (b:Int)=((a ||| b:Nat):Int):=
 (bits_nat .i64 63 (by decide) (λn h0 h1=>by rw[IntKind.wrap_i64];omega) a b (by omega) (by omega)).2
theorem shl_i64(i:Nat)(h:i<=10):IntKind.i64.wrap ((2:Int)^i)=((2^i:Nat):Int):=by
 have h1:=pow_le_1024 h
 have e:((2^i:Nat):Int)=(2:Int)^i:=by simp
 rw[<-e]
 generalize 2^i=x at h1
 rw[IntKind.wrap_i64]
 omega
theorem beq0(z:Nat):((z:Int)==0)=Nat.beq z 0:=by
 cases z with
 |zero=>rfl
 |succ n=>rfl
set_option maxRecDepth 100000 in
set_option maxHeartbeats 4000000 in
theorem share_be(p:BP)(T i k:Nat)(w:World)(h:Be p T w)(hi:i<p.ks.length)(hk:k<p.ks.length):
 Calls Tryz.prog 55 #[.pointer (some ⟨T,0,none⟩),.int .i64 (i:Nat),.int .i64 (k:Nat)] w λe w'=>e=.returned (.bool (shareP p i k))/\Below w.heap.size w w':=by
 have hp:=pair_lt hi hk
 have n10:=h.n10
 have Hle:=Lib.hid (λW(hb:Below w.heap.size w W)=>least_be p T (2^i ||| 2^k) W (h.later hb) hp.1 hp.2)
 have Hli:=Lib.hid (λW(hb:Below w.heap.size w W)=>lies_be p T (leastP p.ks (2^i ||| 2^k)) W (h.later hb) (least_bd hp.1 hp.2 h.bd).1)
 have s1:=shl_i64 i (by omega)
 have s2:=shl_i64 k (by omega)
 have a1:=pow_le_1024 (show i<=10 by omega)
 have s3:=or_i64 (2^i) (2^k) (Nat.lt_of_lt_of_le (Nat.pow_lt_pow_right (by omega) hi) (pow_le_1024 n10)) (Nat.lt_of_lt_of_le (Nat.pow_lt_pow_right (by omega) hk) (pow_le_1024 n10))
 have i1:(0:Int)<=(i:Int):=by omega
 have i2:(0:Int)<=(k:Int):=by omega
 obtain⟨q,hq⟩:∃q,leastP p.ks (2^i ||| 2^k)=q:=⟨_,rfl⟩
 have hv:shareP p i k=Nat.beq (liesE p.rn p.rs.size p.most p.F (nzF p.F) q) 0:=by rw[<-hq];rfl
 rw[hq]at Hle Hli
 rw[hv]
 obtain⟨z,hz⟩:∃z,liesE p.rn p.rs.size p.most p.F (nzF p.F) q=z:=⟨_,rfl⟩
 rw[hz]at Hli ⊢
 obtain⟨sb,hsb⟩:∃sb,(2^i ||| 2^k)=sb:=⟨_,rfl⟩
 rw[hsb]at Hle s3
 simp only[Int.natCast_pow,Int.cast_ofNat_Int]at s1 s2 s3
 obtain⟨pa,hpa⟩:∃x,(encPc q).toArray=x:=⟨_,rfl⟩
 rw[hpa]at Hle Hli
 clear hp h hv hz hq hsb hpa a1
 go_enter Tryz.func55,Tryz.ntmps55
 go_wp2_with fail
 refine dag 12 (by kernel_rfl) (by kernel_rfl) (.is ?_::.is ?_::.is ?_::.is ?_::.is ?_::.is ?_::.is ?_::.is ?_::.is ?_::.is ?_::.is ?_::.is ?_::[]) rfl ?st1 ?ob1
 case st1=>repeat (first|exact stab_nil|refine stab_is ?_)
 case ob1=>
 intro env V hG
 have HG:=Lib.hid hG
 iterate 8 (refine obI ?_ ?_;unfold dsA;go_simp;(try go_bits);(first|(refine⟨brefl _,?_⟩;rfl)|rfl);intro K hK;go_simp;refine hK _ ?_;clear hK K)
 refine obI ?_ ?_
 ·unfold dsA
  go_simp
  refine(Hle.out V HG.out).mono ?_
  rintro e w1⟨rfl,hb1⟩
  refine⟨?_,hb1⟩
  rfl
 intro K hK
 go_simp
 refine hK _ ?_
 clear hK K
 refine obI ?_ ?_
 ·unfold dsA
  go_simp
  refine(Hli.out V HG.out).mono ?_
  rintro e w1⟨rfl,hb1⟩
  refine⟨?_,hb1⟩
  rfl
 intro K hK
 go_simp
 refine hK _ ?_
 clear hK K
 (refine obI ?_ ?_;unfold dsA;go_simp;(try go_bits);(first|(refine⟨brefl _,?_⟩;rfl)|rfl);intro K hK;go_simp;refine hK _ ?_;clear hK K)
 (refine obI ?_ ?_;unfold dsA;go_simp;(try go_bits);(first|(refine⟨brefl _,?_⟩;rfl)|rfl);intro K hK;go_simp;refine hK _ ?_;clear hK K)
 refine obN (λhok=>?_)
 clear hok
 go_wp2
 go_ret
 exact⟨rtB (beq0 z),HG.out⟩
end Go.Proofs.YtifehdoghfnhoaaGreatDoor.Pa
