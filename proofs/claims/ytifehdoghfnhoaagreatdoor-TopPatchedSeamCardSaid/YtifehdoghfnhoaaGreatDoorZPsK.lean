/- Seam's document: a valid panel, walked. -/
import Derived.Test.YtifehdoghfnhoaaGreatDoorZPsD
import Derived.Test.YtifehdoghfnhoaaGreatDoorZTsE
import Derived.Test.YtifehdoghfnhoaaGreatDoorZApp
namespace Go.Proofs.YtifehdoghfnhoaaGreatDoor.Pa
open Go.RowKit Go.Shelf
open Go.Proofs.YtifehdoghfnhoaaGreatDoor.Sm (Lw encLw PanIn PanOk ltLw OrdOk OrdsOk)
theorem sl_take{W:World}{B n c:Nat}{A:Option Addr}{xs:List Int}(h:Sl 1 encI W B A n c xs){i:Nat}(hi:i<=n):Sl 1 encI W B A i c (xs.take i):=by
 refine⟨by rw[List.length_take,h.len];omega,Nat.le_trans hi h.cap,h.big,λh0=>?_⟩
 obtain⟨b,o,h1,h2,h3⟩:=h.at_ (by omega)
 refine⟨b,o,h1,h2,λj x hx k u hu=>h3 j x ?_ k u hu⟩
 rw[List.getElem?_take]at hx
 split at hx
 ·exact hx
 ·cases hx
theorem sl_drop{W:World}{B n c b o:Nat}{xs:List Int}(h:Sl 1 encI W B (some ⟨b,o,none⟩) n c xs){i:Nat}(hi:i<=n):Sl 1 encI W B (some ⟨b,o+i,none⟩) (n-i) (c-i) (xs.drop i):=by
 refine⟨by rw[List.length_drop,h.len],by have:=h.cap;omega,by have:=h.big;omega,λh0=>?_⟩
 obtain⟨b',o',h1,h2,h3⟩:=h.at_ (by omega)
 cases h1
 refine⟨b,o+i,rfl,h2,λj x hx k u hu=>?_⟩
 rw[List.getElem?_drop]at hx
 have:=h3 (i+j) x hx k u hu
 rw[show o+i+j*1+k=o+(i+j)*1+k by omega]
 exact this
theorem sl_drop2{W:World}{B n c b o:Nat}{xs:List Int}(h:Sl 1 encI W B (some ⟨b,o,none⟩) n c xs){i:Nat}(hi:i<=n):Sl 1 encI W B (if c=i then some ⟨b,o,none⟩else some ⟨b,o+i,none⟩) (n-i) (c-i) (xs.drop i):=by
 by_cases e:c=i
 ·rw[if_pos e]
  exact⟨by rw[List.length_drop,h.len],by have:=h.cap;omega,by have:=h.big;omega,λh0=>by have:=h.cap;omega⟩
 ·rw[if_neg e]
  exact sl_drop h hi
def EmpS(v:Value)(_:World):Prop:=∃g,v=.slice (some ⟨g,0,none⟩) 0 0
def RowN(B:Nat)(xs:List Int)(v:Value)(W:World):Prop:=W.ownsRow B 3 1 v xs.length (xs.map (Value.int .i64))
def CpyN(B:Nat)(xs:List Int)(v:Value)(W:World):Prop:=(xs=[]/\∃g,v=.slice (some ⟨g,0,none⟩) 0 0)\/RowN B xs v W
theorem CpyN.stab{B:Nat}{xs:List Int}:∀v W W',Gr W W'->CpyN B xs v W->CpyN B xs v W':=λ_ _ _ hG h=>h.elim .inl λh=>.inr (owL h hG)
theorem run_app_emp{W:World}{g0 n c B:Nat}{A:Option Addr}{xs:List Int}(ty:TypeId)(hB:B<=W.heap.size)(hs:Sl 1 encI W W.heap.size A n c xs)(h1:n<=1000):
 ∃v' W',(Builtin.append_ #[43,43] ty #[.slice (some ⟨g0,0,none⟩) 0 0,.slice A n c]).run Tryz.prog W=.ok v' W'/\(Gr W W'/\CpyN B xs v' W'):=by
 obtain⟨i0,hi0,hz0,hz1,hz2⟩:=info_parts info_int
 have hl:=hs.len
 by_cases h0:n=0
 ·subst h0
  have hx:xs=[]:=List.length_eq_zero_iff.1 hl
  subst hx
  refine⟨.slice (some ⟨g0,0,none⟩) 0 0,W,?_,brefl W,.inl ⟨rfl,_,rfl⟩⟩
  cases A with
  |none=>simp[Builtin.append_,run_underlying und_ints,sizeOf,typeInfo,hi0,Builtin.lenOf,Builtin.firstCells,loadCells,storeCells]
  |some A=>simp[Builtin.append_,run_underlying und_ints,sizeOf,typeInfo,hi0,Builtin.lenOf,Builtin.firstCells,loadCells,loadCellsFrom,storeCells]
 ·obtain⟨b,o,rfl,_,_⟩:=hs.at_ (by omega)
  obtain⟨v',W',e1,e2,e3⟩:=run_append_arg_grows (P:=Tryz.prog) W 43 ty 3 i0 (.int .i64 0) 1 8 und_ints hi0 hz0 hz1 hz2 rfl (by decide) ⟨g0,0,none⟩ 0 0 [] (by simp) (by simp) ⟨b,o,none⟩ n c (xs.map (Value.int .i64)) (by simp[hl]) (sl_news hs (by omega)) (by omega) (by simp only[maxLen];omega) (by omega)
  refine⟨v',W',e1,⟨e3.os,e3.tape,e3.output,e3.size,λk hk=>e3.block k hk (by simp)⟩,.inr (own_low ?_ hB)⟩
  rw[hl]
  simpa using e2
theorem run_app_l{W:World}{n c B:Nat}{A:Option Addr}{v:Value}{xs ys:List Int}(ty:TypeId)(hB:B<=W.heap.size)(h:RowN B xs v W)(hs:Sl 1 encI W W.heap.size A n c ys)(h1:xs.length+n<=1000):
 ∃v' W',(Builtin.append_ #[43,43] ty #[v,.slice A n c]).run Tryz.prog W=.ok v' W'/\(W.grownBy W' v.ownBlock/\RowN B (xs++ys) v' W'):=by
 have hfl:∀l:List Int,l.flatMap encI=l.map (.int .i64):=λl=>by
  induction l with
  |nil=>rfl
  |cons t l ih=>rw[List.flatMap_cons,ih];rfl
 obtain⟨i0,hi0,hz0,hz1,hz2⟩:=info_parts info_int
 unfold RowN at h
 obtain⟨v',W',e1,e2,e3⟩:=run_app_sl (P:=Tryz.prog) (enc:=encI) (k:=1) (λ_=>rfl) (λx u hu=>by rw[List.mem_singleton.1 hu];rfl) (by omega) 43 3 ty und_ints hi0 hz0 hz1 hz2 (by rfl) (base:=B) (by rw[hfl];exact h) hs (by omega) (by omega) hB
 refine⟨v',W',e1,e2,?_⟩
 unfold RowN
 rw[hfl]at e3
 exact e3
theorem run_app_c{W:World}{n c B:Nat}{A:Option Addr}{v:Value}{xs ys:List Int}(ty:TypeId)(hB:B<=W.heap.size)(h:CpyN B xs v W)(hs:Sl 1 encI W W.heap.size A n c ys)(h1:xs.length+n<=1000):
 ∃v' W',(Builtin.append_ #[43,43] ty #[v,.slice A n c]).run Tryz.prog W=.ok v' W'/\(GrT B 3 W W'/\CpyN B (xs++ys) v' W'):=by
 rcases h with⟨rfl,g0,rfl⟩|h
 ·obtain⟨v',W',e1,e2,e3⟩:=run_app_emp (g0:=g0) ty hB hs (by simp at h1;omega)
  exact⟨v',W',e1,⟨none,⟨e2.os,e2.tape,e2.output,e2.size,λk hk _=>e2.block k hk⟩,λr hr=>by cases hr⟩,by simpa using e3⟩
 ·obtain⟨v',W',e1,e2,e3⟩:=run_app_l ty hB h hs h1
  exact⟨v',W',e1,grT_of_own e2 h (Nat.le_refl _),.inr e3⟩
theorem CpyN.sl{B:Nat}{xs:List Int}{v:Value}{W:World}(h:CpyN B xs v W):∃A c,v=.slice A xs.length c/\Sl 1 encI W W.heap.size A xs.length c xs:=by
 rcases h with⟨rfl,g,rfl⟩|h
 ·exact⟨some ⟨g,0,none⟩,0,rfl,rfl,Nat.le_refl _,by omega,λh=>absurd h (by simp)⟩
 ·exact own_slI h rfl
def lessL(l:List Nat)(n:Nat):List Nat:=l.take n++l.drop (n+1)
theorem lessL_perm{l ord:List Nat}{n x m:Nat}(h:(ord++l).Perm (List.range m))(hx:l[n]? =some x):((ord++[x])++lessL l n).Perm (List.range m):=by
 refine List.Perm.trans ?_ h
 obtain⟨h1,h2⟩:=List.getElem?_eq_some_iff.1 hx
 have e:l=l.take n++x::l.drop (n+1):=by
  conv=>lhs;rw[<-List.take_append_drop n l]
  rw[List.drop_eq_getElem_cons h1,h2]
 conv=>rhs;rw[e]
 unfold lessL
 rw[List.append_assoc]
 refine List.Perm.append_left ord ?_
 rw[List.singleton_append]
 exact List.perm_middle.symm
theorem lessL_len{l:List Nat}{n:Nat}(h:n<l.length):(lessL l n).length+1=l.length:=by
 unfold lessL
 rw[List.length_append,List.length_take,List.length_drop]
 omega
theorem castL_less(l:List Nat)(n:Nat):castL (lessL l n)=(castL l).take n++(castL l).drop (n+1):=by
 unfold castL lessL
 rw[List.map_append,List.map_take,List.map_drop]
theorem ordOk_perm{n:Nat}{l:List Nat}(h:l.Perm (List.range n)):OrdOk n (castL l):=by
 refine⟨by rw[castL_len,h.length_eq,List.length_range],λo ho=>?_,?_⟩
 ·obtain⟨y,rfl,hy⟩:=castL_mem ho
  have:=List.mem_range.1 (h.mem_iff.1 hy)
  omega
 ·unfold castL
  rw[List.nodup_iff_pairwise_ne,List.pairwise_map]
  exact(List.nodup_iff_pairwise_ne.1 (h.nodup_iff.2 List.nodup_range)).imp (λhne e=>hne (by omega))
def OrdsTo(ls:List Lw)(out:List (List Nat)):Prop:=∀(j:Nat)r l,ls[j]? =some r->out[j]? =some l->l.Perm (List.range r.n)
structure CW0(w W:World)(LA:Option Addr)(ln lc:Nat)(ls:List Lw)(BA:Option Addr)(bn bc:Nat)(bs:List Nat):Prop where
 bel:Below w.heap.size w W
 b0:Blk W w.heap.size 55 #[.slice LA ln lc]
 pan0:PanIn w LA ln lc ls
 by0:Sl 1 encB w w.heap.size BA bn bc bs
section
variable{w W W':World}{LA:Option Addr}{ln lc:Nat}{ls:List Lw}{BA:Option Addr}{bn bc:Nat}{bs:List Nat}
theorem CW0.pan(h:CW0 w W LA ln lc ls BA bn bc bs):PanIn W LA ln lc ls:=h.pan0.later h.bel
theorem CW0.by_(h:CW0 w W LA ln lc ls BA bn bc bs):Sl 1 encB W W.heap.size BA bn bc bs:=h.by0.later h.bel
theorem CW0.later(h:CW0 w W LA ln lc ls BA bn bc bs)(hb:Below W.heap.size W W'):CW0 w W' LA ln lc ls BA bn bc bs:=⟨Below.later h.bel hb,h.b0.later hb,h.pan0,h.by0⟩
theorem CW0.grown{row:Option Nat}(h:CW0 w W LA ln lc ls BA bn bc bs)(hg:W.grownBy W' row)(hr:∀b,row=some b->w.heap.size+1<=b):CW0 w W' LA ln lc ls BA bn bc bs:=
 ⟨below_row h.bel hg (λb e=>by have:=hr b e;omega) (Nat.le_of_lt h.b0.lt),h.b0.grown hg (λe=>by have:=hr _ e;omega),h.pan0,h.by0⟩
end
theorem panIn_of{W:World}{A:Option Addr}{c:Nat}{out:List (List Nat)}(h:SlL W A out.length c out):∃ords:List Lw,PanIn W A out.length c ords/\ords.map (·.xs)=out.map castL/\ords.length=out.length:=by
 have hch:∀(l:List (List Nat))(k:Nat),(∀i x,l[i]? =some x->out[k+i]? =some x)->∃ords:List Lw,ords.length=l.length/\ords.map (·.xs)=l.map castL/\∀(i:Nat)r,ords[i]? =some r->∃b o,A=some ⟨b,o,none⟩/\b<W.heap.size/\W.cell? ⟨b,o+(k+i),none⟩=some (.slice r.A r.n r.c)/\Sl 1 encI W W.heap.size r.A r.n r.c r.xs:=by
  intro l
  induction l with
  |nil=>intro k _;exact⟨[],rfl,rfl,λi r hr=>by simp at hr⟩
  |cons x l ih=>
   intro k hk
   obtain⟨ords,h1,h2,h3⟩:=ih (k+1) (λi y hy=>by
    have:=hk (i+1) y (by simpa using hy)
    rwa[show k+(i+1)=k+1+i by omega]at this)
   obtain⟨b,o,A',c',e1,e2,e3,e4⟩:=h.at_ (k+0) x (hk 0 x rfl)
   refine⟨⟨A',x.length,c',castL x⟩::ords,by simp[h1],by simp[h2],λi r hr=>?_⟩
   cases i with
   |zero=>
    simp only[List.getElem?_cons_zero,Option.some.injEq]at hr
    subst hr
    exact⟨b,o,e1,e2,e3,e4⟩
   |succ i=>
    obtain⟨b,o,g1,g2,g3,g4⟩:=h3 i r (by simpa using hr)
    exact⟨b,o,g1,g2,by rwa[show k+(i+1)=k+1+i by omega],g4⟩
 obtain⟨ords,h1,h2,h3⟩:=hch out 0 (λi x hx=>by rwa[Nat.zero_add])
 refine⟨ords,⟨⟨h1,h.cap,by have:=h.big;simp only[maxLen]at this;omega,λhn=>?_⟩,λr hr=>?_⟩,h2,h1⟩
 ·obtain⟨r0,hr0⟩:∃r,ords[0]? =some r:=⟨_,List.getElem?_eq_getElem (by omega)⟩
  obtain⟨b,o,g1,g2,_,_⟩:=h3 0 r0 hr0
  refine⟨b,o,g1,g2,λi r hr j u hu=>?_⟩
  obtain⟨b',o',e1,e2,e3,_⟩:=h3 i r hr
  rw[g1]at e1
  cases e1
  have hj:j<1:=(List.getElem?_eq_some_iff.1 hu).1
  obtain rfl:j=0:=by omega
  simp only[encLw,List.getElem?_cons_zero,Option.some.injEq]at hu
  rw[show o+i*1+0=o+(0+i)by omega,e3,hu]
 ·obtain⟨i,hi,hir⟩:=List.getElem_of_mem hr
  obtain⟨_,_,_,_,_,g4⟩:=h3 i r (by rw[List.getElem?_eq_getElem hi,hir])
  exact g4
end Go.Proofs.YtifehdoghfnhoaaGreatDoor.Pa
namespace Go.Proofs.YtifehdoghfnhoaaGreatDoor.Pa
open Go.RowKit Go.Shelf
open Go.Proofs.YtifehdoghfnhoaaGreatDoor.Sm (Lw encLw PanIn PanOk ltLw OrdOk OrdsOk)
theorem sl_grown{W W':World}{A:Option Addr}{n c:Nat}{xs:List Int}{row:Option Nat}(h:Sl 1 encI W W.heap.size A n c xs)(hg:W.grownBy W' row)(hne:∀a,A=some a->row≠some a.block):Sl 1 encI W' W'.heap.size A n c xs:=
 ⟨h.len,h.cap,h.big,λhn=>by
   obtain⟨b,o,rfl,hB,hc⟩:=h.at_ hn
   exact⟨b,o,rfl,Nat.lt_of_lt_of_le hB hg.size,λi x hx j u hu=>(World.cell?_of_block (a:=⟨b,o+i*1+j,none⟩) (hg.block b hB (Ne.symm (hne _ rfl)))).trans (hc i x hx j u hu)⟩⟩
theorem tmod_nat(a b:Nat):((a:Int)).tmod (b:Int)=((a % b:Nat):Int):=by
 rw[Int.ofNat_tmod]
def LeftS(W:World)(v9 v8:Value)(left:List Nat):Prop:=∃A c,v8=.slice A left.length c/\Sl 1 encI W W.heap.size A left.length c (castL left)/\∀a,left≠[]->A=some a->v9.ownBlock≠some a.block
set_option maxRecDepth 100000 in
set_option maxHeartbeats 16000000 in
theorem chosen_ok(LA:Option Addr)(ln lc:Nat)(ls:List Lw)(BA:Option Addr)(bn bc:Nat)(bs:List Nat)(w:World)(hp:PanIn w LA ln lc ls)(hb:Sl 1 encB w w.heap.size BA bn bc bs)(hbs:∀x∈bs,x<=255)(hbn:bn<=100)(hln:ln<=100)(hrn:∀r∈ls,1<=r.n/\r.n<=100):
 Calls Tryz.prog 17 #[.agg #[.slice LA ln lc],.slice BA bn bc] w λe w'=>∃A c out,e=.returned (.slice A (List.length out) c)/\Below w.heap.size w w'/\SlL w' A out.length c out/\out.length=ln/\OrdsTo ls out:=by
 have HC0:=Lib.hid (show CW0 w (w.alloc (.cells #[.slice LA ln lc] 55)) LA ln lc ls BA bn bc bs from⟨balloc (brefl w) _,Blk.new w _ _,hp,hb⟩)
 have hll:=hp.sl.len
 have hlcap:=hp.sl.cap
 have hbl:=hb.len
 have hbcap:=hb.cap
 have Hbs:=Lib.hid hbs
 have Hrn:=Lib.hid hrn
 have Hl:=Lib.hid (show ls.length=ln/\bs.length=bn/\bn<=100/\ln<=100 from⟨hll,hbl,hbn,hln⟩)
 clear hp hb hbs hrn hll hbl
 go_enter Tryz.func17,Tryz.ntmps17
 go_wp2_with fail
 refine lpn (λq a W=>a.defers=[]/\∃(i at_:Nat)(v:Value)(out:List (List Nat)),i+q=ln/\at_<=100*i/\out.length=i/\OrdsTo ls out/\CW0 w W LA ln lc ls BA bn bc bs/\LL W (w.heap.size+1) v out/\Fits (none::some (.slice BA bn bc)::some (.pointer (some ⟨w.heap.size,0,none⟩))::none::none::some (v)::some (.int .i64 (at_:Nat))::some (.int .i64 (i:Nat))::none::none::none::none::none::none::none::none::none::none::none::none::none::none::none::none::none::none::none::none::none::none::none::none::none::none::none::none::none::none::none::none::none::none::none::none::none::none::none::none::none::none::none::none::none::none::none::none::none::none::none::none::none::none::none::none::none::none::none::none::none::none::none::none::none::none::[]) a.tmps.toList) ln ?_ ?_
 ·refine⟨rfl,0,0,.slice none 0 0,[],by omega,by omega,rfl,λj r l _ h=>by simp at h,HC0.out,LL.nil _ _,?_⟩
  repeat (first|exact ftL|refine ftN ?_|refine ftS ?_)
 clear HC0
 intro q a W hI K1 hK
 obtain⟨hds,i,at0,v,out,hiq,hat,hol,hord,hC,hLL,hfit⟩:=hI
 obtain⟨f',hf'⟩:=ftA hfit
 rw[hds]at hf'
 subst hf'
 clear hfit hds
 simp only[fillP,Nat.reduceAdd]
 have HC:=Lib.hid hC
 have HLL:=Lib.hid hLL
 have HOrd:=Lib.hid hord
 have HK:=Lib.hid (@hK)
 have c0:=hC.b0.cell 0
 have c1:=hC.b0.lt
 clear hLL hord hK
 by_cases hlt:i<ln
 ·have hl100:=Hl.out.2.2.2
  obtain⟨b,o,r,hA,hbb,hr,r0⟩:=ltLw hC.pan.sl hlt
  have hrm:=List.mem_of_getElem? hr
  have hr100:=Hrn.out r hrm
  have Hr:=Lib.hid hr
  have Hi:=Lib.hid (show i+q=ln/\i<ln/\at0<=100*i/\out.length=i/\ln<=100/\1<=r.n/\r.n<=100 from⟨hiq,hlt,hat,hol,hl100,hr100⟩)
  have i1:(i:Int)<(ln:Int):=by omega
  have i2:(0:Int)<=(i:Int):=by omega
  have i3:IntKind.i64.wrap ((i:Int)+1)=((i+1:Nat):Int):=by rw[IntKind.wrap_i64];omega
  have Hrow:=Lib.hid (λW'(hb:Below W.heap.size W W')=>And.intro ((hb.cell (p:=⟨b,o+i,none⟩) hbb).trans r0) (Nat.lt_of_lt_of_le hbb hb.size))
  obtain⟨rn,hrne⟩:∃x,r.n=x:=⟨_,rfl⟩
  rw[hrne]at Hrow Hi
  have Hrn2:=Lib.hid hrne
  subst hA
  obtain⟨W1,hW1⟩:∃W1,W=W1:=⟨_,rfl⟩
  subst hW1
  clear hC hiq hat hol hrm hr100 hr r0 hrne hl100
  go_wp2_with fail
  clear c0 c1
  refine lpn (λq2 a W'=>a.defers=[]/\∃(k:Nat)(v8:Value),k+q2=rn/\Below W.heap.size W W'/\W'.ownsRow W.heap.size 3 1 v8 (List.range k).length ((List.range k).map encN)/\Fits (none::some (.slice BA bn bc)::some (.pointer (some ⟨w.heap.size,0,none⟩))::none::none::some (v)::some (.int .i64 (at0:Nat))::some (.int .i64 (i:Nat))::some (v8)::some (.slice none 0 0)::some (.int .i64 (k:Nat))::none::none::none::none::none::none::none::none::none::none::none::none::none::none::none::none::none::none::none::none::none::none::none::none::none::none::none::none::none::none::none::none::none::none::none::none::none::none::none::none::none::none::none::none::none::none::none::none::none::none::none::none::none::none::none::none::none::none::none::none::none::none::none::[]) a.tmps.toList) rn ?_ ?_
  ·refine⟨rfl,0,.slice none 0 0,by omega,brefl W,World.ownsRow_nil _ _ _ _,?_⟩
   repeat (first|exact ftL|refine ftN ?_|refine ftS ?_)
  intro q2 a W2 hI2 K2 hK2
  obtain⟨hds,k,v8,hkq,hW2,hO8,hfit⟩:=hI2
  obtain⟨f',hf'⟩:=ftA hfit
  rw[hds]at hf'
  subst hf'
  clear hfit hds
  simp only[fillP,Nat.reduceAdd]
  have HW2:=Lib.hid hW2
  have HO8:=Lib.hid hO8
  have HK2:=Lib.hid (@hK2)
  have HC2:=Lib.hid (HC.out.later hW2)
  have c0:=HC2.out.b0.cell 0
  have c1:=HC2.out.b0.lt
  obtain⟨r0,r1⟩:=Hrow.out W2 hW2
  clear hW2 hO8 hK2
  by_cases hkl:k<rn
  ·have k1:(k:Int)<(rn:Int):=by omega
   have k3:IntKind.i64.wrap ((k:Int)+1)=((k+1:Nat):Int):=by rw[IntKind.wrap_i64];have:=Hi.out;omega
   obtain⟨i0,hi0,hz0,hz1,hz2⟩:=info_parts info_int
   have HO8b:=Lib.hid (owL HO8.out (balloc (brefl W2) (.cells #[.int .i64 (k:Int)] 3)))
   have HBs:=Lib.hid (show W.heap.size<=W2.heap.size from HW2.out.size)
   have Hk:=Lib.hid (show k+q2=rn/\k<rn from⟨hkq,hkl⟩)
   clear hkq
   go_wp2_with (at_builtin;refine wpList_append_own _ rfl _ _ 43 rfl W.heap.size 3 i0 (.int .i64 0) 1 8 und_ints hi0 hz0 hz1 hz2 rfl (by decide) v8 (List.range k).length _ rfl HO8b.out ⟨W2.heap.size,0,none⟩ 1 1 [.int .i64 (k:Int)] rfl rfl (one_new _ _ _) (by simp[Value.oneCell']) (by have:=Hk.out;have:=Hi.out;have:=@List.length_range k;simp only[maxLen];omega) (by have:=Hk.out;have:=Hi.out;have:=@List.length_range k;omega) (by have:=HBs.out;simp;omega) ?_;intro v' W3 hown' hgr _;have HO6:=Lib.hid hown';have HW6:=Lib.hid (below_row (Below.later HW2.out (balloc (brefl W2) _)) hgr (λg hg=>own_base HO8b.out g hg) (by have:=HBs.out;simp;omega));clear hown' hgr)
   obtain⟨j1,j2⟩:=Hk.out
   refine HK2.out _ _ (q2-1) (by omega) ⟨rfl,k+1,v',by omega,HW6.out,?_,?_⟩
   ·have h8:=HO6.out
    rw[List.range_succ,List.length_append,List.map_append]
    simpa[encN]using h8
   ·repeat (first|exact ftL|refine ftN ?_|refine ftS ?_)
  ·have hke:k=rn:=by omega
   subst hke
   obtain⟨A8,c8,rfl,hsl8⟩:=own_slI (ts:=castL (List.range k)) (by rw[castL_enc];exact HO8.out) (castL_len _)
   have HS8:=Lib.hid (show LeftS W2 (.slice none 0 0) (.slice A8 k c8) (List.range k)from⟨A8,c8,by rw[List.length_range],hsl8,λa _ _ h=>by cases h⟩)
   have k1:¬((k:Int)<(k:Int)):=by omega
   have HLL1:=Lib.hid (HLL.out.later HW2.out)
   clear hkq hkl hsl8 HK2 HO8
   go_wp2_with fail
   clear c0 c1 r0 r1
   refine lpn (λq3 a W'=>a.defers=[]/\∃(left ord:List Nat)(v8 v9:Value)(at_:Nat),left.length=q3/\(ord++left).Perm (List.range k)/\at_<=at0+ord.length/\Below W2.heap.size W2 W'/\LeftS W' v9 v8 left/\W'.ownsRow W2.heap.size 3 1 v9 ord.length (ord.map encN)/\Fits (none::some (.slice BA bn bc)::some (.pointer (some ⟨w.heap.size,0,none⟩))::none::none::some (v)::some (.int .i64 (at_:Nat))::some (.int .i64 (i:Nat))::some (v8)::some (v9)::none::none::none::none::none::none::none::none::none::none::none::none::none::none::none::none::none::none::none::none::none::none::none::none::none::none::none::none::none::none::none::none::none::none::none::none::none::none::none::none::none::none::none::none::none::none::none::none::none::none::none::none::none::none::none::none::none::none::none::none::none::none::none::none::[]) a.tmps.toList) k ?_ ?_
   ·refine⟨rfl,List.range k,[],_,.slice none 0 0,at0,by simp,by simp,by simp,brefl W2,HS8.out,World.ownsRow_nil _ _ _ _,?_⟩
    repeat (first|exact ftL|refine ftN ?_|refine ftS ?_)
   clear HS8 HW2 HLL
   intro q3 a W' hI3 K3 hK3
   obtain⟨hds,left,ord,v8,v9,at1,hq3,hperm,hat,hB1,hLS,hO9,hfit⟩:=hI3
   obtain⟨f',hf'⟩:=ftA hfit
   rw[hds]at hf'
   subst hf'
   clear hfit hds
   simp only[fillP,Nat.reduceAdd]
   have HK3:=Lib.hid (@hK3)
   have HCW:=Lib.hid (HC2.out.later hB1)
   obtain⟨A9,c9,rfl,hS8,hap⟩:=hLS
   clear hK3
   have hpl:=hperm.length_eq
   rw[List.length_append,List.length_range]at hpl
   have hi:=Hi.out
   by_cases hl0:q3=0
   ·have hle:left=[]:=List.length_eq_zero_iff.1 (by omega)
    subst hle
    rw[List.append_nil]at hperm
    have hok:ord.length=k:=by simpa using hpl
    have hok1:∃m,ord.length=m+1:=⟨ord.length-1,by omega⟩
    obtain⟨m,hm⟩:=hok1
    have hO9':=hO9
    rw[hm]at hO9'
    obtain⟨g,cap,rfl⟩:=own_succ hO9'
    have hrow:=RowI.of_own hO9' hm
    have HR5:=Lib.hid (hrow.later (balloc (brefl W') (.cells #[.slice (some ⟨g,0,none⟩) (m+1) cap] 43)))
    have HL6:=Lib.hid (HLL1.out.later (Below.later hB1 (balloc (brefl W') (.cells #[.slice (some ⟨g,0,none⟩) (m+1) cap] 43))))
    have HC6:=Lib.hid (HCW.out.later (balloc (brefl W') (.cells #[.slice (some ⟨g,0,none⟩) (m+1) cap] 43)))
    obtain⟨vs,hv1,hv2⟩:=HL6.out.own
    have Hv1:=Lib.hid hv1
    have Hv2:=Lib.hid hv2
    have HBw:=Lib.hid (show w.heap.size+1<=(W'.alloc (.cells #[.slice (some ⟨g,0,none⟩) (m+1) cap] 43)).heap.size from HC6.out.b0.lt)
    have Hol:=Lib.hid (show out.length<=100/\out.length=i/\at1<=100*(i+1)by omega)
    have HOrd2:=Lib.hid (show OrdsTo ls (out++[ord])fromλj r' l hr' hl'=>by
     by_cases hj:j<out.length
     ·rw[List.getElem?_append_left hj]at hl'
      exact HOrd.out j r' l hr' hl'
     ·have hje:j=out.length:=by
       have:=(List.getElem?_eq_some_iff.1 hl').1
       simp at this
       omega
      rw[hje,List.getElem?_append_right (Nat.le_refl _),Nat.sub_self]at hl'
      simp only[List.getElem?_cons_zero,Option.some.injEq]at hl'
      subst hl'
      rw[hje,Hol.out.2.1,Hr.out]at hr'
      cases hr'
      rw[Hrn2.out]
      exact hperm)
    obtain⟨i1',hi1',hy0,hy1,hy2⟩:=info_parts info_ints
    have l1:¬((0:Int)<((([]:List Nat).length:Nat):Int)):=by simp
    clear hv1 hv2 hO9 hO9' hrow hm hok hpl hperm hB1 hq3 hat hi hap hS8
    go_wp2_with (at_builtin;refine wpList_append_own _ rfl _ _ 59 rfl (w.heap.size+1) 43 i1' (.slice none 0 0) 1 24 und_intss hi1' hy0 hy1 hy2 rfl (by decide) v out.length vs rfl Hv1.out ⟨W'.heap.size,0,none⟩ 1 1 [.slice (some ⟨g,0,none⟩) (m+1) cap] rfl rfl (one_new _ _ _) (by simp[Value.oneCell']) (by have:=Hol.out;simp only[maxLen];omega) (by have:=Hol.out;omega) (by have:=HBw.out;simpa using this) ?_;intro v' W6 hown' hgr _;have HLL6:=Lib.hid (LL.app Hv1.out Hv2.out HR5.out hgr hown');have HC7:=Lib.hid (HC6.out.grown hgr (λg hg=>own_base Hv1.out g hg));clear hown' hgr)
    obtain⟨j1,j2,j3,j4,j5,j6,j7⟩:=Hi.out
    obtain⟨j8,j9,j10⟩:=Hol.out
    refine HK.out _ _ (q-1) (by omega) ⟨rfl,i+1,at1,v',out++[ord],by omega,j10,by simp;omega,HOrd2.out,HC7.out,HLL6.out,?_⟩
    repeat (first|exact ftL|refine ftN ?_|refine ftS ?_)
   ·obtain⟨ll,hll⟩:∃x,left.length=x:=⟨_,rfl⟩
    rw[hll]at hS8 ⊢
    obtain⟨j1,j2,j3,j4⟩:=Hl.out
    have HCW1:=Lib.hid HCW.out.by_
    have Hpre:=Lib.hid (show left.length=q3/\0<q3/\at1<=at0+ord.length/\ord.length+left.length=k/\left.length=ll from⟨hq3,by omega,hat,hpl,hll⟩)
    have l1:(0:Int)<(ll:Int):=by omega
    have HS8a:=Lib.hid hS8
    have HO9a:=Lib.hid hO9
    have HB1a:=Lib.hid hB1
    have Hperm:=Lib.hid hperm
    have Hap:=Lib.hid hap
    clear hS8 hO9 hB1 hap hperm hll hq3 hat hpl hl0
    go_upto_if 38 with fail
    go_cut [6,11]from 33 to 68 (λs6 s11 wx=>∃at2 nn:Nat,s6=.int .i64 (at2:Nat)/\s11=.int .i64 (nn:Nat)/\nn<ll/\at2<=at1+1/\W'=wx)
    case first=>
     by_cases hb0:0<bn
     case neg=>
      have b1:¬((0:Int)<(bn:Int)):=by omega
      clear hb0
      go_wp2_with fail
      go_meet
      case rel=>exact⟨at1,0,rfl,rfl,by have:=Hpre.out;omega,by omega,rfl⟩
     case pos=>
      have b1:(0:Int)<(bn:Int):=by omega
      have b2:¬((bn:Int)=0):=by omega
      have b3:=tmod_nat at1 bn
      obtain⟨aj,haj⟩:∃n,at1 % bn=n:=⟨_,rfl⟩
      have haj2:aj<bn:=by rw[<-haj];exact Nat.mod_lt _ (by omega)
      rw[haj]at b3
      obtain⟨b,o,x,hA,hbb,hx,hc⟩:=HCW1.out.ltB haj2
      subst hA
      have hx255:=Hbs.out x (List.mem_of_getElem? hx)
      have b4:IntKind.i64.wrap (aj:Int)=(aj:Int):=by rw[IntKind.wrap_i64];omega
      have b5:IntKind.i64.wrap (x:Int)=(x:Int):=by rw[IntKind.wrap_i64];omega
      have b6:=tmod_nat x ll
      obtain⟨nn,hnn⟩:∃n,x % ll=n:=⟨_,rfl⟩
      have hnn2:nn<ll:=by rw[<-hnn];exact Nat.mod_lt _ (by omega)
      rw[hnn]at b6
      have b7:¬((ll:Int)=0):=by omega
      have b8:IntKind.i64.wrap (nn:Int)=(nn:Int):=by rw[IntKind.wrap_i64];have:=Hi.out;have:=Hpre.out;omega
      have b9:IntKind.i64.wrap ((at1:Int)+1)=((at1+1:Nat):Int):=by rw[IntKind.wrap_i64];have:=Hi.out;have:=Hpre.out;omega
      have b10:(0:Int)<=(aj:Int):=by omega
      have b11:(aj:Int)<(bn:Int):=by omega
      clear haj hx hnn
      go_wp2_with fail
      go_meet
      case rel=>exact⟨at1+1,nn,rfl,rfl,hnn2,Nat.le_refl _,rfl⟩
    case rest=>
    obtain⟨at2,nn,rfl,rfl,hnn,hat2,rfl⟩:=hcut
    obtain⟨hq3,hl0,hat,hpl,hll⟩:=Hpre.out
    have hS8:=HS8a.out
    have hO9:=HO9a.out
    have hB1:=HB1a.out
    have hap:=Hap.out
    have hperm:=Hperm.out
    have hi:=Hi.out
    clear HS8a HO9a HB1a Hap Hperm
    have hnl:nn<left.length:=by omega
    have HLs1:=Lib.hid (lessL_len (l:=left) hnl)
    obtain⟨x,hx⟩:∃x,left[nn]? =some x:=⟨_,List.getElem?_eq_getElem hnl⟩
    have hxc:(castL left)[nn]? =some (x:Int):=by unfold castL;rw[List.getElem?_map,hx];rfl
    obtain⟨b8,o8,y8,hA8,hbb8,hy8,z8⟩:=hS8.ltI (show nn<ll by omega)
    rw[hxc]at hy8
    cases hy8
    subst hA8
    have hcap8:=hS8.cap
    have hbig8:=hS8.big
    have n1:(nn:Int)<(ll:Int):=by omega
    have n2:(0:Int)<=(nn:Int):=by omega
    have n3:(nn:Int)<=(c9:Int):=by omega
    have n4:(nn:Int)+1<=(ll:Int):=by omega
    have n5:(0:Int)<=(nn:Int)+1:=by omega
    have n6:IntKind.i64.wrap ((nn:Int)+1)=(nn:Int)+1:=by rw[IntKind.wrap_i64];omega
    have n7:(ll:Int)<=(c9:Int):=by omega
    have n8:(0:Int)<(ll:Int):=by omega
    have HPerm1:=Lib.hid (lessL_perm hperm hx)
    have HS81:=Lib.hid (hS8.later (balloc (brefl W') (.cells #[.int .i64 (x:Int)] 3)))
    have HO91:=Lib.hid (owL hO9 (balloc (brefl W') (.cells #[.int .i64 (x:Int)] 3)))
    have HB1:=Lib.hid (Below.later hB1 (balloc (brefl W') (.cells #[.int .i64 (x:Int)] 3)))
    have HAp1:=Lib.hid (λa(h:(some (⟨b8,o8,none⟩:Addr))=some a)=>hap a (λe=>by rw[e]at hnl;simp at hnl) h)
    have Hol1:=Lib.hid (show ord.length<=100/\W2.heap.size<=W'.heap.size/\ll=left.length/\nn<ll/\ll<=100/\left.length=q3/\at1<=at0+ord.length/\at0<=10000 from⟨by omega,hB1.size,hll.symm,by omega,by omega,hq3,hat,by omega⟩)
    obtain⟨i0,hi0,hz0,hz1,hz2⟩:=info_parts info_int
    clear hxc hS8 hO9 hB1 hap hperm hx hll hq3 hat hpl hi hnl hl0
    go_wp2_with (at_builtin;refine wpList_append_own _ rfl _ _ 43 rfl W2.heap.size 3 i0 (.int .i64 0) 1 8 und_ints hi0 hz0 hz1 hz2 rfl (by decide) v9 ord.length _ rfl HO91.out ⟨W'.heap.size,0,none⟩ 1 1 [.int .i64 (x:Int)] rfl rfl (one_new _ _ _) (by simp[Value.oneCell']) (by have:=Hol1.out;simp only[maxLen];omega) (by have:=Hol1.out;omega) (by have:=Hol1.out;simp;omega) ?_;intro v9' W3 hown' hgr _;have HO931:=Lib.hid hown';have HB31:=Lib.hid (below_row HB1.out hgr (λg hg=>own_base HO91.out g hg) (by have:=Hol1.out;simp;omega));have HS831:=Lib.hid (sl_grown HS81.out hgr HAp1.out);clear hown' hgr)
    clear z8 hbb8
    refine dagFresh 11 9 3 (λi=>!(i==4)&&!(i==9)) (λi=>i==10) (by kernel_rfl) (by kernel_rfl) (.like EmpS::.is ?_::.is ?_::.is ?_::.like (CpyN W3.heap.size ((castL left).take nn))::.is ?_::.is ?_::.is ?_::.is ?_::.like (CpyN W3.heap.size (castL (lessL left nn)))::.like (CpyN W3.heap.size (castL (lessL left nn)))::[]) rfl ?su1 ?gu1 (by kernel_rfl) ?tu1 ?ou1
    case su1=>repeat (first|exact stab_nil|refine stab_is ?_|refine stab_like (R:=EmpS) (λ_ _ _ _ h=>h) ?_|refine stab_like CpyN.stab ?_)
    case gu1=>intro o ho;cases ho;rfl
    case tu1=>repeat (first|exact trivial|refine⟨λh=>absurd h (by decide),?_⟩|refine⟨λ_ _ _ _ _ h=>h,?_⟩)
    case ou1=>
    intro env V hG
    have HV1:=Lib.hid hG
    have HR1:=Lib.hid (HS831.out.later hG)
    refine oblsA_like (show _≠(9:Nat)by decide) (λ_=>?_) ?_
    ·unfold dsA
     go_simp
     exact⟨balloc (brefl _) _,V.heap.size,rfl⟩
    intro K hK
    go_simp
    refine hK _ ?_
    clear hK K
    iterate 3 (refine oblsA_is (show _≠(9:Nat)by decide) ?_ ?_;unfold dsA;go_simp;(try go_bits);(first|(refine⟨brefl _,?_⟩;rfl)|rfl);intro K hK;go_simp;refine hK _ ?_;clear hK K)
    refine oblsA_like (show _≠(9:Nat)by decide) (λhl=>?_) ?_
    ·obtain⟨g',hE⟩:EmpS (env 0) V:=hl ⟨0,.data⟩ (by simp) rfl (.inr (.inr rfl))
     refine app_of_run rfl (.tmp 59) (.tmp 62) 43 rfl hE rfl ?_
     exact run_app_emp _ HV1.out.size (sl_take HR1.out (i:=nn) (by have:=Hol1.out;omega)) (by have:=Hol1.out;omega)
    intro K hK
    go_simp
    refine hK _ ?_
    clear hK K
    iterate 4 (refine oblsA_is (show _≠(9:Nat)by decide) ?_ ?_;unfold dsA;go_simp;(try go_bits);(first|(refine⟨brefl _,?_⟩;rfl)|rfl);intro K hK;go_simp;refine hK _ ?_;clear hK K)
    refine oblsA_app rfl (λhl hp=>?_) ?_
    ·have h4:CpyN W3.heap.size ((castL left).take nn) (env 4) V:=hl ⟨4,.data⟩ (by simp) rfl (.inl rfl)
     refine app_of_run rfl (.tmp 63) (.tmp 67) 43 rfl rfl rfl ?_
     rw[castL_less]
     exact run_app_c _ HV1.out.size h4 (sl_drop2 HR1.out (i:=nn+1) (by have:=Hol1.out;omega)) (by have:=Hol1.out;simp[castL_len];omega)
    intro K hK
    go_simp
    refine hK _ ?_
    clear hK K
    refine oblsA_like (show _≠(9:Nat)by decide) (λhl=>?_) ?_
    ·have h9:CpyN W3.heap.size (castL (lessL left nn)) (env 9) V:=hl ⟨9,.data⟩ (by simp) rfl (.inr (.inl rfl))
     unfold dsA
     go_simp
     exact brefl V
    intro K hK
    go_simp
    refine hK _ ?_
    clear hK K
    refine oblsA_nil (λhok=>?_)
    have h10:CpyN W3.heap.size (castL (lessL left nn)) (env 10) V:=hok 10 _ rfl (.inr rfl)
    obtain⟨u,hu⟩:∃u,env 10=u:=⟨_,rfl⟩
    rw[hu]at h10 ⊢
    have HLS1:=Lib.hid (show LeftS V v9' u (lessL left nn)from by
     obtain⟨A',c',hE,hsl'⟩:=h10.sl
     rw[castL_len]at hE hsl'
     refine⟨A',c',hE,hsl',λa hne ha=>?_⟩
     rcases h10 with⟨h0,_⟩|h10
     ·exact absurd (by unfold castL at h0;exact List.map_eq_nil_iff.1 h0) hne
     ·have hb:=own_base (show V.ownsRow W3.heap.size 3 1 u _ _ from h10)
      intro e
      have h1:=own_lt HO931.out _ e
      rw[hE,ha]at hb
      have h2:=hb a.block rfl
      omega)
    have HOf1:=Lib.hid (owL HO931.out HV1.out)
    have HBf1:=Lib.hid (Below.later HB31.out HV1.out)
    clear hok hu h10 hG
    go_wp2_with fail
    all_goals
     obtain⟨j1,j2,j3,j4,j5,j6,j7,j8⟩:=Hol1.out
     have hls:=HLs1.out
     refine HK3.out _ _ (q3-1) (by omega) ⟨rfl,lessL left nn,ord++[x],u,v9',at2,by omega,HPerm1.out,by simp;omega,HBf1.out,HLS1.out,?_,?_⟩
     ·have h8:=HOf1.out
      rw[List.length_append,List.map_append]
      simpa[encN]using h8
     ·repeat (first|exact ftL|refine ftN ?_|refine ftS ?_)
 ·have hie:i=ln:=by omega
  subst hie
  obtain⟨A5,c5,rfl,hSL⟩:=HLL.out.sl
  have HSL:=Lib.hid hSL
  have Hol:=Lib.hid hol
  clear hiq hat hlt hSL hol
  go_wp2_with fail
  go_ret
  exact⟨A5,c5,out,rfl,HC.out.bel,HSL.out,Hol.out,HOrd.out⟩
end Go.Proofs.YtifehdoghfnhoaaGreatDoor.Pa
namespace Go.Proofs.YtifehdoghfnhoaaGreatDoor.Pa
open Go.RowKit Go.Shelf
open Go.Proofs.YtifehdoghfnhoaaGreatDoor.Sm (Lw encLw PanIn PanOk ltLw)
theorem panAt{W:World}{b o ln lc:Nat}{ls:List Lw}(h:PanIn W (some ⟨b,o,none⟩) ln lc ls){i:Nat}{r:Lw}(hr:ls[i]? =some r):W.cell? ⟨b,o+i,none⟩=some (.slice r.A r.n r.c)/\b<W.heap.size/\Sl 1 encI W W.heap.size r.A r.n r.c r.xs:=by
 have hi:i<ln:=by rw[<-h.sl.len];exact(List.getElem?_eq_some_iff.1 hr).1
 obtain⟨b',o',r',hA,hb,hr',hc⟩:=ltLw h.sl hi
 cases hA
 rw[hr]at hr'
 cases hr'
 exact⟨hc,hb,h.rows r (List.mem_of_getElem? hr)⟩
theorem panAddr{W:World}{LA:Option Addr}{ln lc:Nat}{ls:List Lw}(h:PanIn W LA ln lc ls)(hn:0<ln):∃b o,LA=some ⟨b,o,none⟩:=by
 obtain⟨b,o,_,hA,_⟩:=ltLw h.sl hn
 exact⟨b,o,hA⟩
structure PW(w W:World)(LA:Option Addr)(ln lc:Nat)(ls:List Lw):Prop where
 bel:Below w.heap.size w W
 b0:Blk W w.heap.size 55 #[.slice LA ln lc]
 pan0:PanIn w LA ln lc ls
section
variable{w W W':World}{LA:Option Addr}{ln lc:Nat}{ls:List Lw}
theorem PW.pan(h:PW w W LA ln lc ls):PanIn W LA ln lc ls:=h.pan0.later h.bel
theorem PW.later(h:PW w W LA ln lc ls)(hb:Below W.heap.size W W'):PW w W' LA ln lc ls:=⟨Below.later h.bel hb,h.b0.later hb,h.pan0⟩
end
set_option maxRecDepth 100000 in
set_option maxHeartbeats 1000000 in
theorem refSum_any(A:Option Addr)(n c:Nat)(xs:List Int)(w:World)(hs:Sl 1 encI w w.heap.size A n c xs)(hn:n<=1000)(hx:∀x∈xs,0<=x/\x<=1000):
 Calls Tryz.prog 16 #[.slice A n c] w λe w'=>e=.returned (.int .i64 xs.sum)/\Below w.heap.size w w':=by
 have hl:=hs.len
 have hsum:∀j,j<=xs.length->0<=(xs.take j).sum/\(xs.take j).sum<=1000*j:=by
  intro j
  induction j with
  |zero=>intro _;simp
  |succ j ih=>
   intro hj
   have h1:=ih (by omega)
   have hin:j<xs.length:=by omega
   have h2:=hx _ (List.getElem_mem hin)
   rw[List.take_succ_eq_append_getElem hin,List.sum_append]
   simp
   omega
 have Hs:=Lib.hid hs
 have Hx:=Lib.hid hx
 have Hsum:=Lib.hid hsum
 have Hl:=Lib.hid hl
 clear hs hx hsum hl
 go_enter Tryz.func16,Tryz.ntmps16
 go_wp2_with fail
 refine lpn (λq a W=>a.defers=[]/\∃i:Nat,i+q=n/\Below w.heap.size w W/\Fits (some (.slice A n c)::none::none::some (.int .i64 (xs.take i).sum)::some (.int .i64 (i:Nat))::none::none::none::none::none::none::none::none::none::none::none::none::none::[]) a.tmps.toList) n ?_ ?_
 ·refine⟨rfl,0,by omega,brefl w,?_⟩
  repeat (first|exact ftL|refine ftN ?_|refine ftS ?_)
 intro q a W hI K1 hK
 obtain⟨hds,i,hiq,hB,hfit⟩:=hI
 obtain⟨f',hf'⟩:=ftA hfit
 rw[hds]at hf'
 subst hf'
 clear hfit hds
 simp only[fillP,Nat.reduceAdd]
 have HB:=Lib.hid hB
 by_cases hlt:i<n
 ·obtain⟨b,o,x,rfl,hbb,hx,x0⟩:=(Hs.out.later hB).ltI hlt
  have h1:=Hsum.out i (by have:=Hl.out;omega)
  have h2:=Hx.out x (List.mem_of_getElem? hx)
  obtain⟨s,hs⟩:∃s,(xs.take i).sum=s:=⟨_,rfl⟩
  obtain⟨s',hs'⟩:∃s',(xs.take (i+1)).sum=s':=⟨_,rfl⟩
  have hst:s+x=s':=by
   obtain⟨hin,hxe⟩:=List.getElem?_eq_some_iff.1 hx
   rw[<-hs,<-hs',List.take_succ_eq_append_getElem hin,List.sum_append,hxe]
   simp
  rw[hs]at h1 ⊢
  have i1:(i:Int)<(n:Int):=by omega
  have i2:(0:Int)<=(i:Int):=by omega
  have i3:IntKind.i64.wrap ((i:Int)+1)=(i:Int)+1:=by rw[IntKind.wrap_i64];omega
  have i4:IntKind.i64.wrap (s+x)=s':=by rw[IntKind.wrap_i64];omega
  have Hs':=Lib.hid hs'
  clear h1 h2 hs hst hx hs' hB
  go_wp2_with fail
  rw[<-Hs'.out]
  refine hK _ _ (q-1) (by omega) ⟨rfl,i+1,by omega,HB.out,?_⟩
  repeat (first|exact ftL|refine ftN ?_|refine ftS ?_)
 ·obtain rfl:i=n:=by omega
  have H3:=Lib.hid (show(xs.take i).sum=xs.sum by rw[<-Hl.out,List.take_length])
  obtain⟨s,hs⟩:∃s,(xs.take i).sum=s:=⟨_,rfl⟩
  rw[hs]at H3 ⊢
  have i1:¬((i:Int)<(i:Int)):=by omega
  clear hK hlt hiq hB hs
  go_wp2_with fail
  go_ret
  exact⟨ret_int H3.out,HB.out⟩
set_option maxRecDepth 100000 in
set_option maxHeartbeats 8000000 in
theorem refPan_any(LA:Option Addr)(ln lc:Nat)(ls:List Lw)(w:World)(hp:PanIn w LA ln lc ls):
 Calls Tryz.prog 14 #[.agg #[.slice LA ln lc]] w λe w'=>∃q:Int,e=.returned (.int .i64 q)/\(q=0->PanOk ls)/\Below w.heap.size w w':=by
 have HP0:=Lib.hid (show PW w (w.alloc (.cells #[.slice LA ln lc] 55)) LA ln lc ls from⟨balloc (brefl w) _,Blk.new w _ _,hp⟩)
 have hll:=hp.sl.len
 have hlcap:=hp.sl.cap
 have hlbig:=hp.sl.big
 by_cases h2:(ln:Int)<2
 ·clear hp hll
  go_enter Tryz.func14,Tryz.ntmps14
  go_wp2_with fail
  go_ret
  exact⟨6,rfl,λh=>absurd h (by decide),HP0.out.bel⟩
 by_cases h4:(4:Int)<(ln:Int)
 ·clear hp hll
  go_enter Tryz.func14,Tryz.ntmps14
  go_wp2_with fail
  go_ret
  exact⟨6,rfl,λh=>absurd h (by decide),HP0.out.bel⟩
 obtain⟨b,o,rfl⟩:=panAddr hp (by omega)
 have HL:=Lib.hid (show ls.length=ln/\2<=ln/\ln<=4 by omega)
 have Hlen:=Lib.hid (λr(h:r∈ls)=>(hp.rows r h).len)
 have l1:(0:Int)<(ln:Int):=by omega
 clear hp hll
 go_enter Tryz.func14,Tryz.ntmps14
 go_wp2_with fail
 refine lpn (λq a W=>a.defers=[]/\∃i:Nat,i+q=ln/\PW w W (some ⟨b,o,none⟩) ln lc ls/\(∀j r,j<i->ls[j]? =some r->1<=r.n/\r.n<=5)/\Fits (none::some (.pointer (some ⟨w.heap.size,0,none⟩))::none::some (.int .i64 (i:Nat))::none::none::none::none::none::none::none::none::none::none::none::none::none::none::none::none::none::none::none::none::none::none::none::none::none::none::none::none::none::none::none::none::none::none::none::none::none::none::none::none::none::none::none::none::none::none::none::none::none::none::none::none::none::none::none::none::none::none::none::none::none::none::none::none::none::none::none::none::none::none::none::none::none::none::none::none::none::none::none::none::none::none::none::none::none::none::none::none::none::none::none::none::[]) a.tmps.toList) ln ?_ ?_
 ·refine⟨rfl,0,by omega,HP0.out,λj r h=>absurd h (by omega),?_⟩
  repeat (first|exact ftL|refine ftN ?_|refine ftS ?_)
 clear HP0
 intro q a W hI K1 hK
 obtain⟨hds,i,hiq,hP,h15,hfit⟩:=hI
 obtain⟨f',hf'⟩:=ftA hfit
 rw[hds]at hf'
 subst hf'
 clear hfit hds
 simp only[fillP,Nat.reduceAdd]
 have HP:=Lib.hid hP
 have c0:=hP.b0.cell 0
 have c1:=hP.b0.lt
 by_cases hlt:i<ln
 ·skip
  obtain⟨r,hr⟩:∃r,ls[i]? =some r:=⟨_,List.getElem?_eq_getElem (by have:=HL.out;omega)⟩
  have Hr:=Lib.hid hr
  obtain⟨r0,rb,rs⟩:=panAt hP.pan hr
  have hrcap:=rs.cap
  have i1:(i:Int)<(ln:Int):=by omega
  have i2:(0:Int)<=(i:Int):=by omega
  have i3:IntKind.i64.wrap ((i:Int)+1)=(i:Int)+1:=by rw[IntKind.wrap_i64];omega
  clear hr rs
  have Hh:=Lib.hid h15
  clear hP h15
  by_cases g1:(r.n:Int)<1
  ·go_wp2_with fail
   go_ret
   exact⟨6,rfl,λh=>absurd h (by decide),HP.out.bel⟩
  by_cases g2:(5:Int)<(r.n:Int)
  ·go_wp2_with fail
   go_ret
   exact⟨6,rfl,λh=>absurd h (by decide),HP.out.bel⟩
  have Hg:=Lib.hid (show 1<=r.n/\r.n<=5 by omega)
  go_wp2_with fail
  refine hK _ _ (q-1) (by omega) ⟨rfl,i+1,by omega,HP.out,λj r' hj hr'=>?_,?_⟩
  ·by_cases hji:j=i
   ·subst hji
    rw[Hr.out]at hr'
    cases hr'
    exact Hg.out
   ·exact Hh.out j r' (by omega) hr'
  ·repeat (first|exact ftL|refine ftN ?_|refine ftS ?_)
 have hie:i=ln:=by omega
 subst hie
 have H15:=Lib.hid (show∀r∈ls,1<=r.n/\r.n<=5 fromλr hr=>by
  obtain⟨j,hj,hjr⟩:=List.getElem_of_mem hr
  exact h15 j r (by have:=HL.out;omega) (by rw[List.getElem?_eq_getElem hj,hjr]))
 have k1:¬((i:Int)<(i:Int)):=by omega
 clear hP h15 hlt hK hiq
 go_wp2_with fail
 clear c0 c1
 refine lpn (λq a W=>a.defers=[]/\∃k:Nat,k+q=i/\PW w W (some ⟨b,o,none⟩) i lc ls/\(∀j r,j<k->ls[j]? =some r->∀x∈r.xs,1<=x/\x<=100)/\Fits (none::some (.pointer (some ⟨w.heap.size,0,none⟩))::none::none::some (.int .i64 (k:Nat))::none::none::none::none::none::none::none::none::none::none::none::none::none::none::none::none::none::none::none::none::none::none::none::none::none::none::none::none::none::none::none::none::none::none::none::none::none::none::none::none::none::none::none::none::none::none::none::none::none::none::none::none::none::none::none::none::none::none::none::none::none::none::none::none::none::none::none::none::none::none::none::none::none::none::none::none::none::none::none::none::none::none::none::none::none::none::none::none::none::none::none::[]) a.tmps.toList) i ?_ ?_
 ·refine⟨rfl,0,by omega,HP.out,λj r h=>absurd h (by omega),?_⟩
  repeat (first|exact ftL|refine ftN ?_|refine ftS ?_)
 clear HP
 intro q a W hI K1 hK
 obtain⟨hds,k,hkq,hP,h1x,hfit⟩:=hI
 obtain⟨f',hf'⟩:=ftA hfit
 rw[hds]at hf'
 subst hf'
 clear hfit hds
 simp only[fillP,Nat.reduceAdd]
 have HP:=Lib.hid hP
 have c0:=hP.b0.cell 0
 have c1:=hP.b0.lt
 by_cases hlt:k<i
 ·have i1:(k:Int)<(i:Int):=by omega
  have i2:(0:Int)<=(k:Int):=by omega
  have i3:IntKind.i64.wrap ((k:Int)+1)=(k:Int)+1:=by have:=HL.out;rw[IntKind.wrap_i64];omega
  obtain⟨r,hr⟩:∃r,ls[k]? =some r:=⟨_,List.getElem?_eq_getElem (by have:=HL.out;omega)⟩
  have Hr:=Lib.hid hr
  have hn5:=H15.out r (List.mem_of_getElem? hr)
  have Hx:=Lib.hid h1x
  have HK:=Lib.hid (@hK)
  have Hkq:=Lib.hid (show k+q=i/\k<i from⟨hkq,hlt⟩)
  have Hrn:=Lib.hid hn5
  obtain⟨r0,rb,rs⟩:=panAt hP.pan hr
  have hrcap:=rs.cap
  obtain⟨W1,hW1⟩:∃W1,W=W1:=⟨_,rfl⟩
  subst hW1
  clear hr hn5 h1x hK rs hkq hP
  go_wp2_with fail
  clear c0 c1 r0 rb
  refine lpn (λq2 a W'=>a.defers=[]/\∃m:Nat,m+q2=r.n/\PW w W' (some ⟨b,o,none⟩) i lc ls/\(∀j x,j<m->r.xs[j]? =some x->1<=x/\x<=100)/\Fits (none::some (.pointer (some ⟨w.heap.size,0,none⟩))::none::none::some (.int .i64 (k:Nat))::some (.int .i64 (m:Nat))::none::none::none::none::none::none::none::none::none::none::none::none::none::none::none::none::none::none::none::none::none::none::none::none::none::none::none::none::none::none::none::none::none::none::none::none::none::none::none::none::none::none::none::none::none::none::none::none::none::none::none::none::none::none::none::none::none::none::none::none::none::none::none::none::none::none::none::none::none::none::none::none::none::none::none::none::none::none::none::none::none::none::none::none::none::none::none::none::none::none::[]) a.tmps.toList) r.n ?_ ?_
  ·refine⟨rfl,0,by omega,HP.out,λj x h=>absurd h (by omega),?_⟩
   repeat (first|exact ftL|refine ftN ?_|refine ftS ?_)
  clear HP
  intro q2 a W' hI2 K2 hK2
  obtain⟨hds,m,hmq,hP,h1y,hfit⟩:=hI2
  obtain⟨f',hf'⟩:=ftA hfit
  rw[hds]at hf'
  subst hf'
  clear hfit hds
  simp only[fillP,Nat.reduceAdd]
  have HP:=Lib.hid hP
  have c0:=hP.b0.cell 0
  have c1:=hP.b0.lt
  obtain⟨r0,rb,rs⟩:=panAt hP.pan Hr.out
  by_cases hlm:m<r.n
  ·obtain⟨b2,o2,x,hA2,hb2,hx2,x0⟩:=rs.ltI hlm
   have m1:(m:Int)<(r.n:Int):=by omega
   have m2:(0:Int)<=(m:Int):=by omega
   have m3:IntKind.i64.wrap ((m:Int)+1)=(m:Int)+1:=by have:=Hrn.out;rw[IntKind.wrap_i64];omega
   have Hy:=Lib.hid h1y
   have HK2:=Lib.hid (@hK2)
   have Hx2:=Lib.hid hx2
   have Hmq:=Lib.hid (show m+q2=r.n/\m<r.n from⟨hmq,hlm⟩)
   rw[hA2]at r0
   clear rs hA2 h1y hK2 hx2 hmq hP
   by_cases g1:x<1
   ·go_wp2_with fail
    go_ret
    exact⟨3,rfl,λh=>absurd h (by decide),HP.out.bel⟩
   by_cases g2:100<x
   ·go_wp2_with fail
    go_ret
    exact⟨3,rfl,λh=>absurd h (by decide),HP.out.bel⟩
   have Hg:=Lib.hid (show 1<=x/\x<=100 by omega)
   go_wp2_with fail
   obtain⟨j1,j2⟩:=Hmq.out
   refine HK2.out _ _ (q2-1) (by omega) ⟨rfl,m+1,by omega,HP.out,λj y hj hy=>?_,?_⟩
   ·by_cases hji:j=m
    ·subst hji
     rw[Hx2.out]at hy
     cases hy
     exact Hg.out
    ·exact Hy.out j y (by omega) hy
   ·repeat (first|exact ftL|refine ftN ?_|refine ftS ?_)
  ·have m1:¬((m:Int)<(r.n:Int)):=by omega
   have Hrow:=Lib.hid (show∀x∈r.xs,1<=x/\x<=100 fromλx hx=>by
    obtain⟨j,hj,hjx⟩:=List.getElem_of_mem hx
    exact h1y j x (by have:=rs.len;omega) (by rw[List.getElem?_eq_getElem hj,hjx]))
   clear rs h1y hK2 hmq hP
   go_wp2_with fail
   obtain⟨j1,j2⟩:=Hkq.out
   refine HK.out _ _ (q-1) (by omega) ⟨rfl,k+1,by omega,HP.out,λj y hj hy=>?_,?_⟩
   ·by_cases hji:j=k
    ·subst hji
     rw[Hr.out]at hy
     cases hy
     exact Hrow.out
    ·exact Hx.out j y (by omega) hy
   ·repeat (first|exact ftL|refine ftN ?_|refine ftS ?_)
 have hke:k=i:=by omega
 subst hke
 have H1x:=Lib.hid (show∀r∈ls,∀x∈r.xs,1<=x/\x<=100 fromλr hr=>by
  obtain⟨j,hj,hjr⟩:=List.getElem_of_mem hr
  exact h1x j r (by have:=HL.out;omega) (by rw[List.getElem?_eq_getElem hj,hjr]))
 obtain⟨r1,hr1⟩:∃r,ls[0]? =some r:=⟨_,List.getElem?_eq_getElem (by have:=HL.out;omega)⟩
 have Hr1:=Lib.hid hr1
 clear hP h1x hlt hK hkq hr1
 go_wp2_with fail
 clear c0 c1
 refine lpn (λq a W=>a.defers=[]/\∃i:Nat,i+q=k/\1<=i/\PW w W (some ⟨b,o,none⟩) k lc ls/\(∀j r,j<i->ls[j]? =some r->r.xs.sum=r1.xs.sum)/\Fits (none::some (.pointer (some ⟨w.heap.size,0,none⟩))::none::none::none::none::some (.int .i64 (i:Nat))::none::none::none::none::none::none::none::none::none::none::none::none::none::none::none::none::none::none::none::none::none::none::none::none::none::none::none::none::none::none::none::none::none::none::none::none::none::none::none::none::none::none::none::none::none::none::none::none::none::none::none::none::none::none::none::none::none::none::none::none::none::none::none::none::none::none::none::none::none::none::none::none::none::none::none::none::none::none::none::none::none::none::none::none::none::none::none::none::none::[]) a.tmps.toList) (k-1) ?_ ?_
 ·refine⟨rfl,1,by have:=HL.out;omega,Nat.le_refl _,HP.out,λj r h hr=>?_,?_⟩
  ·obtain rfl:j=0:=by omega
   rw[Hr1.out]at hr
   cases hr
   rfl
  ·repeat (first|exact ftL|refine ftN ?_|refine ftS ?_)
 clear HP
 intro q a W hI K1 hK
 obtain⟨hds,i,hiq,hi1,hP,hsm,hfit⟩:=hI
 obtain⟨f',hf'⟩:=ftA hfit
 rw[hds]at hf'
 subst hf'
 clear hfit hds
 simp only[fillP,Nat.reduceAdd]
 have HP:=Lib.hid hP
 have c0:=hP.b0.cell 0
 have c1:=hP.b0.lt
 by_cases hlt:i<k
 ·have i1:(i:Int)<(k:Int):=by omega
  have i2:(0:Int)<=(i:Int):=by omega
  have i3:IntKind.i64.wrap ((i:Int)+1)=(i:Int)+1:=by have:=HL.out;rw[IntKind.wrap_i64];omega
  obtain⟨r,hr⟩:∃r,ls[i]? =some r:=⟨_,List.getElem?_eq_getElem (by have:=HL.out;omega)⟩
  have Hr:=Lib.hid hr
  have Hsum:=Lib.hid (λr(h:r∈ls)W(hs:Sl 1 encI W W.heap.size r.A r.n r.c r.xs)=>refSum_any r.A r.n r.c r.xs W hs (by have:=H15.out r h;omega) (λx hx=>by have:=H1x.out r h x hx;omega))
  have Hm:=Lib.hid (List.mem_of_getElem? hr)
  have Hm1:=Lib.hid (List.mem_of_getElem? Hr1.out)
  have Hiq:=Lib.hid (show i+q=k/\i<k/\1<=i from⟨hiq,hlt,hi1⟩)
  have Hs:=Lib.hid hsm
  have HK:=Lib.hid (@hK)
  obtain⟨r0,rb,_⟩:=panAt hP.pan hr
  clear hr hiq hsm hK hP hi1
  go_wp2_with fail
  obtain⟨s,hs⟩:∃s,r.xs.sum=s:=⟨_,rfl⟩
  obtain⟨t,ht⟩:∃s,r1.xs.sum=s:=⟨_,rfl⟩
  have Hc1:=Lib.hid (λV(h:Sl 1 encI V V.heap.size r.A r.n r.c r.xs)=>by
   have h1:=Hsum.out r Hm.out V h
   rw[hs]at h1
   exact h1)
  have Hc2:=Lib.hid (λV(h:Sl 1 encI V V.heap.size r1.A r1.n r1.c r1.xs)=>by
   have h1:=Hsum.out r1 Hm1.out V h
   rw[ht]at h1
   exact h1)
  have Hss:=Lib.hid hs
  have Htt:=Lib.hid ht
  clear hs ht Hsum
  refine dag 12 (by kernel_rfl) (by kernel_rfl) (.is ?_::.is ?_::.is ?_::.is ?_::.is ?_::.is ?_::.is ?_::.is ?_::.is ?_::.is ?_::.is ?_::.is ?_::[]) rfl ?st1 ?ob1
  case st1=>repeat (first|exact stab_nil|refine stab_is ?_)
  case ob1=>
  intro env V hG
  have HP3:=Lib.hid (HP.out.later hG)
  have c0:=HP3.out.b0.cell 0
  have c1:=HP3.out.b0.lt
  obtain⟨s0,sb,ss⟩:=panAt HP3.out.pan Hr.out
  obtain⟨t0,tb,ts⟩:=panAt HP3.out.pan Hr1.out
  have HS:=Lib.hid ss
  have HT:=Lib.hid ts
  rw[Nat.add_zero]at t0
  have k0:0<k:=by have:=HL.out;omega
  clear ss ts
  iterate 5 (refine obI ?_ ?_;unfold dsA;go_simp;(try go_bits);(first|(refine⟨brefl _,?_⟩;rfl)|rfl);intro K hK;go_simp;refine hK _ ?_;clear hK K)
  refine obI ?_ ?_
  ·unfold dsA
   go_simp
   refine(Hc1.out V HS.out).mono ?_
   rintro e w4⟨rfl,hb4⟩
   refine⟨?_,hb4⟩
   rfl
  intro K hK
  go_simp
  refine hK _ ?_
  clear hK K
  iterate 4 (refine obI ?_ ?_;unfold dsA;go_simp;(try go_bits);(first|(refine⟨brefl _,?_⟩;rfl)|rfl);intro K hK;go_simp;refine hK _ ?_;clear hK K)
  refine obI ?_ ?_
  ·unfold dsA
   go_simp
   refine(Hc2.out V HT.out).mono ?_
   rintro e w4⟨rfl,hb4⟩
   refine⟨?_,hb4⟩
   rfl
  intro K hK
  go_simp
  refine hK _ ?_
  clear hK K
  iterate 1 (refine obI ?_ ?_;unfold dsA;go_simp;(try go_bits);(first|(refine⟨brefl _,?_⟩;rfl)|rfl);intro K hK;go_simp;refine hK _ ?_;clear hK K)
  refine obN (λhok=>?_)
  clear hok hG
  by_cases g1:s=t
  case neg=>
   have d1:(s != t)=true:=by simpa using g1
   clear g1
   go_wp2_with fail
   go_ret
   exact⟨15,rfl,λh=>absurd h (by decide),HP3.out.bel⟩
  case pos=>
   have Hg:=Lib.hid g1
   have d1:(s != t)=false:=by simpa using g1
   clear g1
   go_wp2_with fail
   obtain⟨j1,j2,j3⟩:=Hiq.out
   refine HK.out _ _ (q-1) (by omega) ⟨rfl,i+1,by omega,by omega,HP3.out,λj y hj hy=>?_,?_⟩
   ·by_cases hji:j=i
    ·subst hji
     rw[Hr.out]at hy
     cases hy
     rw[Hss.out,Htt.out,Hg.out]
    ·exact Hs.out j y (by omega) hy
   ·repeat (first|exact ftL|refine ftN ?_|refine ftS ?_)
 have hie:i=k:=by omega
 subst hie
 have Hsm:=Lib.hid (show∀r∈ls,r.xs.sum=r1.xs.sum fromλr hr=>by
  obtain⟨j,hj,hjr⟩:=List.getElem_of_mem hr
  exact hsm j r (by have:=HL.out;omega) (by rw[List.getElem?_eq_getElem hj,hjr]))
 clear hP hsm hlt hK hiq hi1
 go_wp2_with fail
 go_ret
 refine⟨0,rfl,λ_=>?_,HP.out.bel⟩
 obtain⟨l1,l2,l3⟩:=HL.out
 exact⟨by omega,by omega,λr hr=>by rw[Hlen.out r hr];exact H15.out r hr,H1x.out,λr hr r' hr'=>by rw[Hsm.out r hr,Hsm.out r' hr']⟩
end Go.Proofs.YtifehdoghfnhoaaGreatDoor.Pa
