/- The walk of TopPatchedSeam. -/
import Derived.Test.YtifehdoghfnhoaaGreatDoorZPbN
import Derived.Test.YtifehdoghfnhoaaGreatDoorZPsD
import Derived.Test.YtifehdoghfnhoaaGreatDoorZPsG
import Derived.Test.YtifehdoghfnhoaaGreatDoorZPsK
import Derived.Test.YtifehdoghfnhoaaGreatDoorZPsH
namespace Go.Proofs.YtifehdoghfnhoaaGreatDoor.Pa
open Go.RowKit
theorem rel_len{α β:Type}[BEq β][LawfulBEq β](r:α->β->Prop):∀(l:List α)(Q:List β),(∀a∈l,∃q∈Q,r a q)->l.Pairwise (λa b=>∀q,r a q->¬r b q)->l.length<=Q.length
 |[],Q,_,_=>Nat.zero_le _
 |a::l,Q,h,hd=>by
  obtain⟨q,hq,hr⟩:=h a (by simp)
  rw[List.pairwise_cons]at hd
  have h1:=rel_len r l (Q.erase q) (λb hb=>by
   obtain⟨p,hp,hrp⟩:=h b (by simp[hb])
   refine⟨p,(List.mem_erase_of_ne (λe=>?_)).2 hp,hrp⟩
   subst e
   exact hd.1 b hb p hr hrp) hd.2
  rw[List.length_erase_of_mem hq]at h1
  have:=List.length_pos_of_mem hq
  simp only[List.length_cons]
  omega
theorem bitS_test(b j:Nat):bitS b j=b.testBit j:=(Nat.testBit_eq_decide_div_mod_eq).symm
theorem low_off{f:Nat}(h0:0<f)(hf:f<1024):∃i g,f.testBit i=true/\g.testBit i=false/\(∀k,g.testBit k=true->f.testBit k=true)/\pc10 g+1=pc10 f/\g<1024:=by
 have hB:=bits_ok h0 hf
 have hl:(lowN f).testBit (Nat.log2 (lowN f))=true:=by
  conv=>lhs;arg 1;rw[<-hB.pow]
  exact Nat.testBit_two_pow_self
 have hlf:f.testBit (Nat.log2 (lowN f))=true:=by
  have h1:(lowN f &&& f).testBit (Nat.log2 (lowN f))=true:=by rw[hB.sub];exact hl
  rw[Nat.testBit_and,hl,Bool.true_and]at h1
  exact h1
 refine⟨Nat.log2 (lowN f),restN f (lowN f),hlf,?_,λk hk=>?_,hB.pc,?_⟩
 ·rw[restN,Nat.testBit_xor,Nat.testBit_and,hlf,hl]
  rfl
 ·rw[restN,Nat.testBit_xor,Nat.testBit_and]at hk
  revert hk
  cases f.testBit k<;>simp
 ·have:=sub_le (rest_sub f (lowN f))
  omega
theorem pc_zero{f:Nat}(h:1<=pc10 f):0<f:=by
 refine Nat.pos_of_ne_zero λe=>?_
 subst e
 exact absurd h (by decide)
theorem bits_two{f:Nat}(hf:f<1024)(h2:2<=pc10 f):∃i j,i≠j/\f.testBit i=true/\f.testBit j=true:=by
 obtain⟨i,g,h1,h3,h4,h5,h6⟩:=low_off (pc_zero (by omega)) hf
 obtain⟨j,_,g1,_,_,_,_⟩:=low_off (f:=g) (pc_zero (by omega)) h6
 refine⟨i,j,λe=>?_,h1,h4 j g1⟩
 rw[e,g1]at h3
 cases h3
theorem bits_three{f:Nat}(hf:f<1024)(h2:3<=pc10 f):∃i j k,i≠j/\i≠k/\j≠k/\f.testBit i=true/\f.testBit j=true/\f.testBit k=true:=by
 obtain⟨i,g,h1,h3,h4,h5,h6⟩:=low_off (pc_zero (by omega)) hf
 obtain⟨j,k,hjk,g1,g2⟩:=bits_two h6 (by omega)
 refine⟨i,j,k,λe=>?_,λe=>?_,hjk,h1,h4 j g1,h4 k g2⟩
 ·rw[e,g1]at h3
  cases h3
 ·rw[e,g2]at h3
  cases h3
theorem bit_lt{f n i:Nat}(hf:f<2^n)(h:f.testBit i=true):i<n:=by
 refine Nat.lt_of_not_le λhle=>?_
 rw[Nat.testBit_lt_two_pow (Nat.lt_of_lt_of_le hf (Nat.pow_le_pow_right (by omega) hle))]at h
 cases h
theorem sel_mem{f:Nat×Nat->Nat}{ks:List (Nat×Nat)}{sb i:Nat}(hi:i<ks.length)(hb:sb.testBit i=true):((f (ks.getD i (0,0)):Nat):Int)∈selL f ks sb ks.length:=
 List.mem_map.2 ⟨i,List.mem_filter.2 ⟨List.mem_range.2 hi,by rw[bitS_test];exact hb⟩,rfl⟩
structure Rare(rn cn:Nat)(ks:List (Nat×Nat)):Prop where
 rn6:rn<=6
 cn6:cn<=6
 n10:ks.length<=10
 at_:∀x∈ks,x.1<rn/\x.2<cn
 ord:ks.Pairwise (λx y=>x.1<y.1\/(x.1=y.1/\x.2<y.2))
 gap:∀a c,(a,c)∈ks->(a,c+1)∉ks
def Vert(x y:Nat×Nat):Prop:=x.2=y.2/\(x.1+1=y.1\/y.1+1=x.1)
section
variable{rn cn:Nat}{ks:List (Nat×Nat)}
theorem Rare.lt(h:Rare rn cn ks){i:Nat}(hi:i<ks.length):(ks.getD i (0,0))∈ks/\(ks.getD i (0,0)).1<rn/\(ks.getD i (0,0)).2<cn:=by
 have hm:ks.getD i (0,0)∈ks:=by rw[List.getD_eq_getElem?_getD,List.getElem?_eq_getElem hi];exact List.getElem_mem hi
 exact⟨hm,h.at_ _ hm⟩
theorem Rare.inj(h:Rare rn cn ks){i j:Nat}(hi:i<ks.length)(hj:j<ks.length)(hij:i<j):(ks.getD i (0,0)).1<(ks.getD j (0,0)).1\/((ks.getD i (0,0)).1=(ks.getD j (0,0)).1/\(ks.getD i (0,0)).2<(ks.getD j (0,0)).2):=by
 rw[List.getD_eq_getElem?_getD,List.getElem?_eq_getElem hi,List.getD_eq_getElem?_getD,List.getElem?_eq_getElem hj]
 exact List.pairwise_iff_getElem.1 h.ord i j hi hj hij
theorem Rare.ne(h:Rare rn cn ks){i j:Nat}(hi:i<ks.length)(hj:j<ks.length)(hij:i≠j):ks.getD i (0,0)≠ks.getD j (0,0):=by
 intro e
 rcases Nat.lt_or_gt_of_ne hij with h1|h1
 ·have:=h.inj hi hj h1
  rw[e]at this
  omega
 ·have:=h.inj hj hi h1
  rw[e]at this
  omega
theorem lies_few{sb:Nat}(h:liesQ rn cn 2 ks sb=true):(leastP ks sb).r*(leastP ks sb).c<=2/\1<=(leastP ks sb).r/\1<=(leastP ks sb).c:=by
 unfold liesQ pcE at h
 rw[Nat.beq_eq]at h
 generalize hq:leastP ks sb=q at h ⊢
 cases hc:(Nat.ble 1 q.r&&Nat.ble q.r rn&&(Nat.ble 1 q.c&&Nat.ble q.c cn)&&(Nat.ble (q.t+q.r) rn&&Nat.ble (q.l+q.c) cn))with
 |false=>rw[hc]at h;cases h
 |true=>
  rw[hc,cond_true]at h
  simp only[Bool.and_eq_true,Nat.ble_eq]at hc
  refine⟨?_,hc.1.1.1,hc.1.2.1⟩
  refine Nat.le_of_not_lt λhlt=>?_
  rw[blt_yes hlt]at h
  cases h
theorem Rare.two(h:Rare rn cn ks){sb i j:Nat}(hn:sb<2^ks.length)(hl:liesQ rn cn 2 ks sb=true)(hij:i≠j)(hi:sb.testBit i=true)(hj:sb.testBit j=true):Vert (ks.getD i (0,0)) (ks.getD j (0,0)):=by
 have hi1:=bit_lt hn hi
 have hj1:=bit_lt hn hj
 obtain⟨h2,h3,h4⟩:=lies_few hl
 have a1:=mn_le (sel_mem (f:=Prod.fst) hi1 hi)
 have a2:=mn_le (sel_mem (f:=Prod.fst) hj1 hj)
 have a3:=le_mx (sel_mem (f:=Prod.fst) hi1 hi)
 have a4:=le_mx (sel_mem (f:=Prod.fst) hj1 hj)
 have b1:=mn_le (sel_mem (f:=Prod.snd) hi1 hi)
 have b2:=mn_le (sel_mem (f:=Prod.snd) hj1 hj)
 have b3:=le_mx (sel_mem (f:=Prod.snd) hi1 hi)
 have b4:=le_mx (sel_mem (f:=Prod.snd) hj1 hj)
 have hne:=h.ne hi1 hj1 hij
 have hmi:=(h.lt hi1).1
 have hmj:=(h.lt hj1).1
 have hr:(leastP ks sb).r<=2:=by
  have:=Nat.mul_le_mul_left (leastP ks sb).r h4
  omega
 have hc:(leastP ks sb).c<=2:=by
  have:=Nat.mul_le_mul_right (leastP ks sb).c h3
  omega
 have hrc:(leastP ks sb).r=1\/(leastP ks sb).c=1:=by
  by_cases e1:(leastP ks sb).r=1
  ·exact .inl e1
  ·right
   have e2:(leastP ks sb).r=2:=by omega
   rw[e2]at h2
   omega
 simp only[leastP]at hr hc hrc
 generalize mnL (selL Prod.fst ks sb ks.length)=A at*
 generalize mnL (selL Prod.snd ks sb ks.length)=B at*
 generalize mxL (selL Prod.fst ks sb ks.length)=A' at*
 generalize mxL (selL Prod.snd ks sb ks.length)=B' at*
 generalize ks.getD i (0,0)=x at*
 generalize ks.getD j (0,0)=y at*
 obtain⟨x1,x2⟩:=x
 obtain⟨y1,y2⟩:=y
 simp only[ne_eq,Prod.mk.injEq,not_and]at hne
 simp only at a1 a2 a3 a4 b1 b2 b3 b4
 unfold Vert
 simp only
 rcases hrc with e|e
 ·exfalso
  have e1:x1=y1:=by omega
  have e2:=hne e1
  subst e1
  rcases(show y2=x2+1\/x2=y2+1 by omega)with e3|e3
  ·subst e3;exact h.gap _ _ hmi hmj
  ·subst e3;exact h.gap _ _ hmj hmi
 ·have e1:x2=y2:=by omega
  have e2:x1≠y1:=λe2=>hne e2 e1
  exact⟨e1,by omega⟩
theorem Rare.pc2(h:Rare rn cn ks){sb:Nat}(hn:sb<2^ks.length)(hl:liesQ rn cn 2 ks sb=true):pc10 sb<=2:=by
 refine Nat.le_of_not_lt λh3=>?_
 have:=pow_le_1024 h.n10
 obtain⟨i,j,k,hij,hik,hjk,hi,hj,hk⟩:=bits_three (by omega) h3
 obtain⟨e1,e2⟩:=h.two hn hl hij hi hj
 obtain⟨e3,e4⟩:=h.two hn hl hik hi hk
 obtain⟨e5,e6⟩:=h.two hn hl hjk hj hk
 omega
theorem pair_bit{i k:Nat}(j:Nat):(2^i ||| 2^k).testBit j=true↔j=i\/j=k:=by
 rw[Nat.testBit_or,Nat.testBit_two_pow,Nat.testBit_two_pow]
 simp
 omega
theorem mnx_two{l:List Int}{a b:Int}(ha:a∈l)(hb:b∈l)(h:∀y∈l,y=a\/y=b):mnL l=min a b/\mxL l=max a b:=by
 have h1:=mn_le ha
 have h2:=mn_le hb
 have h3:=le_mx ha
 have h4:=le_mx hb
 have h5:(mnL l=a\/mnL l=b)/\(mxL l=a\/mxL l=b):=by
  cases l with
  |nil=>cases ha
  |cons x l=>
   refine⟨?_,?_⟩
   ·exact fold_bd (P:=λy=>y=a\/y=b) (f:=λa b=>min a b) (λx y hx hy=>by omega) l x (h x (by simp)) (λy hy=>h y (by simp[hy]))
   ·exact fold_bd (P:=λy=>y=a\/y=b) (f:=λa b=>max a b) (λx y hx hy=>by omega) l x (h x (by simp)) (λy hy=>h y (by simp[hy]))
 omega
theorem Rare.share_vert(h:Rare rn cn ks){i k:Nat}(hi:i<ks.length)(hk:k<ks.length)(hv:Vert (ks.getD i (0,0)) (ks.getD k (0,0))):shareQ rn cn 2 ks i k=true:=by
 have hik:i≠k:=λe=>by
  rw[e]at hv
  have:=hv.2
  omega
 have key:∀f:Nat×Nat->Nat,mnL (selL f ks (2^i ||| 2^k) ks.length)=min ((f (ks.getD i (0,0)):Nat):Int) ((f (ks.getD k (0,0)):Nat):Int)/\mxL (selL f ks (2^i ||| 2^k) ks.length)=max ((f (ks.getD i (0,0)):Nat):Int) ((f (ks.getD k (0,0)):Nat):Int):=by
  intro f
  refine mnx_two (sel_mem hi ((pair_bit i).2 (.inl rfl))) (sel_mem hk ((pair_bit k).2 (.inr rfl))) λy hy=>?_
  obtain⟨j,_,hb,rfl⟩:=selL_mem hy
  rw[bitS_test,pair_bit]at hb
  rcases hb with rfl|rfl
  ·exact .inl rfl
  ·exact .inr rfl
 obtain⟨a1,a2⟩:=key Prod.fst
 obtain⟨b1,b2⟩:=key Prod.snd
 obtain⟨_,i1,i2⟩:=h.lt hi
 obtain⟨_,k1,k2⟩:=h.lt hk
 obtain⟨v1,v2⟩:=hv
 unfold shareQ liesQ leastP
 rw[a1,a2,b1,b2]
 clear a1 a2 b1 b2 key
 generalize ks.getD i (0,0)=x at*
 generalize ks.getD k (0,0)=y at*
 obtain⟨x1,x2⟩:=x
 obtain⟨y1,y2⟩:=y
 simp only at v1 v2 i1 i2 k1 k2 ⊢
 subst v1
 have e1:(max (x1:Int) (y1:Int)-min (x1:Int) (y1:Int)+1).toNat=2:=by omega
 have e2:(max (x2:Int) (x2:Int)-min (x2:Int) (x2:Int)+1).toNat=1:=by omega
 have e3:(min (x1:Int) (y1:Int)).toNat+2<=rn:=by omega
 have e4:(min (x2:Int) (x2:Int)).toNat+1<=cn:=by omega
 unfold pcE
 simp only[e1,e2]
 have e5:(Nat.ble 1 2&&Nat.ble 2 rn&&(Nat.ble 1 1&&Nat.ble 1 cn)&&(Nat.ble ((min (x1:Int) (y1:Int)).toNat+2) rn&&Nat.ble ((min (x2:Int) (x2:Int)).toNat+1) cn))=true:=by
  simp only[Bool.and_eq_true,Nat.ble_eq]
  omega
 rw[e5]
 rfl
theorem Rare.single(h:Rare rn cn ks):Singles (liesQ rn cn 2 ks) ks.length:=by
 intro i hi
 obtain⟨_,h1,h2⟩:=h.lt hi
 unfold liesQ
 rw[least_one hi]
 unfold pcE
 simp only
 have e1:(Nat.ble 1 1&&Nat.ble 1 rn&&(Nat.ble 1 1&&Nat.ble 1 cn)&&(Nat.ble ((ks.getD i (0,0)).1+1) rn&&Nat.ble ((ks.getD i (0,0)).2+1) cn))=true:=by
  simp only[Bool.and_eq_true,Nat.ble_eq]
  omega
 rw[e1]
 rfl
theorem Rare.share_is(h:Rare rn cn ks){i k:Nat}(hi:i<ks.length)(hk:k<ks.length)(hs:shareQ rn cn 2 ks i k=true):i=k\/Vert (ks.getD i (0,0)) (ks.getD k (0,0)):=by
 by_cases hik:i=k
 ·exact .inl hik
 ·right
  have hp:∀j,j<ks.length->2^j<2^ks.length:=λj hj=>Nat.pow_lt_pow_right (by omega) hj
  exact h.two (Nat.or_lt_two_pow (hp i hi) (hp k hk)) hs hik ((pair_bit i).2 (.inl rfl)) ((pair_bit k).2 (.inr rfl))
theorem Rare.wt(h:Rare rn cn ks){f:Nat}(h0:0<f)(hn:f<2^ks.length):wtQ ks f<=36:=by
 obtain⟨h1,_⟩:=least_bd h0 hn (λx hx=>by have:=h.at_ x hx;have:=h.rn6;have:=h.cn6;omega)
 exact Nat.mul_le_mul h1.r6 h1.c6
def downL(ks:List (Nat×Nat)):List (Nat×Nat):=ks.filter λx=>decide ((x.1+1,x.2)∈ks)
def upB(ks:List (Nat×Nat))(x:Nat×Nat):Bool:=decide (0<x.1/\(x.1-1,x.2)∈ks)
theorem upB_is{ks:List (Nat×Nat)}{x:Nat×Nat}:upB ks x=true↔∃a,a+1=x.1/\(a,x.2)∈ks:=by
 unfold upB
 rw[decide_eq_true_eq]
 constructor
 ·rintro⟨h0,h1⟩
  exact⟨x.1-1,by omega,h1⟩
 ·rintro⟨a,ha,h1⟩
  refine⟨by omega,?_⟩
  rw[<-ha,Nat.add_sub_cancel]
  exact h1
theorem sum_two{α:Type}{f:α->Nat}:∀{l:List α},(∀x∈l,f x<=2)->(l.map f).sum<=l.length+(l.filter λx=>decide (2<=f x)).length
 |[],_=>Nat.le_refl _
 |x::l,h=>by
  have h1:=h x (by simp)
  have h2:=sum_two (f:=f) (l:=l) (λy hy=>h y (by simp[hy]))
  rw[List.filter_cons]
  simp only[List.map_cons,List.sum_cons,List.length_cons]
  by_cases e:2<=f x
  ·rw[if_pos (by simpa using e),List.length_cons]
   omega
  ·rw[if_neg (by simpa using e)]
   omega
theorem pc_full:∀{n:Nat},n<=10->pc10 (2^n-1)=n
 |0,_|1,_|2,_|3,_|4,_|5,_|6,_|7,_|8,_|9,_|10,_=>by decide
 |n+11,h=>by omega
theorem Rare.few(h:Rare rn cn ks):(mendL (liesQ rn cn 2 ks) (wtQ ks) ks.length).length<=ks.length/\ks.length<=(mendL (liesQ rn cn 2 ks) (wtQ ks) ks.length).length+(downL ks).length/\ks.length<=2*(mendL (liesQ rn cn 2 ks) (wtQ ks) ks.length).length:=by
 have hp:=Nat.two_pow_pos ks.length
 have h1024:=pow_le_1024 h.n10
 obtain⟨h1,h2,h3⟩:=out_ok h.single h.n10 (λf h0 hf=>h.wt h0 hf) (2^ks.length) (2^ks.length-1) (by omega) (by omega)
 obtain⟨L,hL⟩:∃L,mendL (liesQ rn cn 2 ks) (wtQ ks) ks.length=L:=⟨_,rfl⟩
 have hL':outW (waysL (liesQ rn cn 2 ks) (wtQ ks) ks.length (2^ks.length-1)) (2^ks.length) (2^ks.length-1)=L:=hL
 rw[hL']at h1 h2 h3
 rw[hL,pc_full h.n10]at*
 have hlt:∀f∈L,f<2^ks.length:=λf hf=>by
  have:=sub_le (h1 f hf).2.1
  omega
 have h4:=sum_ge (f:=pc10) (l:=L) (λf hf=>pc_pos (h1 f hf).1 (by have:=hlt f hf;omega))
 have hp2:∀f∈L,pc10 f<=2:=λf hf=>h.pc2 (hlt f hf) (h1 f hf).2.2
 have h5:=sum_two hp2
 have h6:=rel_len (λf x=>∃i,f.testBit i=true/\i<ks.length/\ks.getD i (0,0)=x) (L.filter λx=>decide (2<=pc10 x)) (downL ks) (λf hf=>by
  obtain⟨hf1,hf2⟩:=List.mem_filter.1 hf
  have hf3:2<=pc10 f:=by simpa using hf2
  have hfl:=hlt f hf1
  obtain⟨i,j,hij,hi,hj⟩:=bits_two (by omega) hf3
  obtain⟨v1,v2⟩:=h.two hfl (h1 f hf1).2.2 hij hi hj
  have hi1:=bit_lt hfl hi
  have hj1:=bit_lt hfl hj
  have mi:=(h.lt hi1).1
  have mj:=(h.lt hj1).1
  rcases v2 with v2|v2
  ·refine⟨_,List.mem_filter.2 ⟨mi,?_⟩,i,hi,hi1,rfl⟩
   rw[decide_eq_true_eq,v2,v1]
   exact mj
  ·refine⟨_,List.mem_filter.2 ⟨mj,?_⟩,j,hj,hj1,rfl⟩
   rw[decide_eq_true_eq,v2,<-v1]
   exact mi) (by
  refine(List.Pairwise.filter _ h3).imp (λ{f g}hfg x⟨i,hi,hi1,hx⟩⟨j,hj,hj1,hy⟩=>?_)
  by_cases hij:i=j
  ·subst hij
   have:(f &&& g).testBit i=true:=by rw[Nat.testBit_and,hi,hj];rfl
   rw[hfg,Nat.zero_testBit]at this
   cases this
  ·exact h.ne hi1 hj1 hij (hx.trans hy.symm))
 have h7:(L.map pc10).sum<=2*L.length:=by
  have:=List.length_filter_le (λx=>decide (2<=pc10 x)) L
  omega
 omega
theorem Rare.up_down(h:Rare rn cn ks):(ks.filter (upB ks)).length=(downL ks).length:=by
 have hnd:ks.Nodup:=h.ord.imp (λ{x y}hxy e=>by subst e;omega)
 refine Nat.le_antisymm ?_ ?_
 ·refine rel_len (λx y=>y.1+1=x.1/\y.2=x.2) _ _ (λx hx=>?_) ((hnd.filter _).imp λ{x y}hne q hq hr=>hne (Prod.ext (by omega) (by omega)))
  obtain⟨h1,h2⟩:=List.mem_filter.1 hx
  obtain⟨a,ha,hm⟩:=upB_is.1 h2
  refine⟨(a,x.2),List.mem_filter.2 ⟨hm,?_⟩,ha,rfl⟩
  rw[decide_eq_true_eq]
  show(a+1,x.2)∈ks
  rw[ha]
  exact h1
 ·refine rel_len (λx y=>x.1+1=y.1/\y.2=x.2) _ _ (λx hx=>?_) ((hnd.filter _).imp λ{x y}hne q hq hr=>hne (Prod.ext (by omega) (by omega)))
  obtain⟨h1,h2⟩:=List.mem_filter.1 hx
  rw[decide_eq_true_eq]at h2
  exact⟨(x.1+1,x.2),List.mem_filter.2 ⟨h2,upB_is.2 ⟨x.1,rfl,h1⟩⟩,rfl,rfl⟩
structure PartsInv(sh:Nat->Nat->Bool)(n i:Nat)(out:List (List Nat)):Prop where
 of:∀l∈out,∃j,j<i/\PartOf sh n j l
 all:∀j,j<i->∃l∈out,j∈l
theorem parts_inv{sh:Nat->Nat->Bool}{n i:Nat}{out:List (List Nat)}(h:PartsTo sh n i out):PartsInv sh n i out:=by
 induction h with
 |nil=>exact⟨λl hl=>(by cases hl),λj hj=>absurd hj (by omega)⟩
 |skip _ hm ih=>
  refine⟨λl hl=>?_,λj hj=>?_⟩
  ·obtain⟨j,hj,hp⟩:=ih.of l hl
   exact⟨j,by omega,hp⟩
  ·rcases Nat.lt_succ_iff_lt_or_eq.1 hj with hj|rfl
   ·exact ih.all j hj
   ·exact hm
 |@add i' out' l' _ hm hp ih=>
  refine⟨λl hl=>?_,λj hj=>?_⟩
  ·rcases List.mem_append.1 hl with hl|hl
   ·obtain⟨j,hj,hp⟩:=ih.of l hl
    exact⟨j,by omega,hp⟩
   ·rw[List.mem_singleton.1 hl]
    exact⟨i',by omega,hp⟩
  ·rcases Nat.lt_succ_iff_lt_or_eq.1 hj with hj|rfl
   ·obtain⟨l,hl,hjl⟩:=ih.all j hj
    exact⟨l,by simp[hl],hjl⟩
   ·exact⟨l',by simp,hp.mem⟩
theorem idx_of{x:Nat×Nat}(hx:x∈ks):∃i,i<ks.length/\ks.getD i (0,0)=x:=by
 obtain⟨i,hi,e⟩:=List.getElem_of_mem hx
 exact⟨i,hi,by rw[List.getD_eq_getElem?_getD,List.getElem?_eq_getElem hi];exact e⟩
theorem Rare.part_up(h:Rare rn cn ks){i0 i:Nat}{l:List Nat}(hp:PartOf (shareQ rn cn 2 ks) ks.length i0 l)(hi:i<ks.length)(h0:i0<i)(hm:i∈l):upB ks (ks.getD i (0,0))=true:=by
 by_cases hu:upB ks (ks.getD i (0,0))=true
 ·exact hu
 exfalso
 have hu':∀a,a+1=(ks.getD i (0,0)).1->(a,(ks.getD i (0,0)).2)∉ks:=λa ha hm=>hu (upB_is.2 ⟨a,ha,hm⟩)
 have hkey:=hp.from_ (λx=>x<ks.length/\¬((ks.getD x (0,0)).2=(ks.getD i (0,0)).2/\(ks.getD i (0,0)).1<=(ks.getD x (0,0)).1/\∀a,(ks.getD i (0,0)).1<=a->a<=(ks.getD x (0,0)).1->(a,(ks.getD i (0,0)).2)∈ks)) ⟨by omega,λhr=>by
  have:=h.inj (by omega) hi h0
  omega⟩ (λx k⟨hx,hnx⟩hk hs=>⟨hk,λ⟨r1,r2,r3⟩=>by
  rcases h.share_is hx hk hs with rfl|⟨v1,v2⟩
  ·exact hnx ⟨r1,r2,r3⟩
  ·refine hnx ⟨by omega,?_,λa ha1 ha2=>?_⟩
   ·rcases v2 with v2|v2
    ·refine Nat.le_of_not_lt λhlt=>?_
     refine hu' (ks.getD x (0,0)).1 (by omega) ?_
     rw[<-r1,<-v1]
     exact(h.lt hx).1
    ·omega
   ·by_cases hak:a<=(ks.getD k (0,0)).1
    ·exact r3 a ha1 hak
    ·have e:a=(ks.getD x (0,0)).1:=by omega
     rw[e,<-r1,<-v1]
     exact(h.lt hx).1⟩) i hm
 refine hkey.2 ⟨rfl,Nat.le_refl _,λa h1 h2=>?_⟩
 have e:a=(ks.getD i (0,0)).1:=by omega
 rw[e]
 exact(h.lt hi).1
theorem Rare.up_part(h:Rare rn cn ks){i:Nat}{out:List (List Nat)}(hv:PartsInv (shareQ rn cn 2 ks) ks.length i out)(hi:i<ks.length)(hu:upB ks (ks.getD i (0,0))=true):∃l∈out,i∈l:=by
 obtain⟨a,ha,hm⟩:=upB_is.1 hu
 obtain⟨j,hj,hje⟩:=idx_of hm
 have hji:j<i:=by
  refine Nat.lt_of_not_le λhle=>?_
  by_cases e:i=j
  ·subst e
   rw[hje]at ha
   simp at ha
  ·have:=h.inj hi hj (by omega)
   rw[hje]at this
   simp only at this
   omega
 obtain⟨l,hl,hjl⟩:=hv.all j hji
 obtain⟨i0,_,hp⟩:=hv.of l hl
 refine⟨l,hl,hp.closed j hjl i hi (h.share_vert hj hi ?_)⟩
 rw[hje]
 exact⟨rfl,.inl ha⟩
theorem Rare.parts_to(h:Rare rn cn ks){i:Nat}{out:List (List Nat)}(hp:PartsTo (shareQ rn cn 2 ks) ks.length i out)(hi:i<=ks.length):out.length+((ks.take i).filter (upB ks)).length=i:=by
 induction hp with
 |nil=>simp
 |@skip i' out' hp' hm ih=>
  have hlt:i'<ks.length:=by omega
  obtain⟨l,hl,hil⟩:=hm
  obtain⟨i0,hi0,hpo⟩:=(parts_inv hp').of l hl
  have hu:=h.part_up hpo hlt hi0 hil
  rw[List.getD_eq_getElem?_getD,List.getElem?_eq_getElem hlt]at hu
  simp only[Option.getD_some]at hu
  rw[List.take_succ_eq_append_getElem hlt,List.filter_append,List.length_append,List.filter_cons,hu,if_pos rfl]
  have:=ih (by omega)
  simp
  omega
 |@add i' out' l hp' hm hpo ih=>
  have hlt:i'<ks.length:=by omega
  have hu:upB ks (ks.getD i' (0,0))=false:=by
   cases hh:upB ks (ks.getD i' (0,0))with
   |false=>rfl
   |true=>
    obtain⟨l',hl',hil⟩:=h.up_part (parts_inv hp') hlt hh
    exact absurd hil (hm l' hl')
  rw[List.getD_eq_getElem?_getD,List.getElem?_eq_getElem hlt]at hu
  simp only[Option.getD_some]at hu
  rw[List.take_succ_eq_append_getElem hlt,List.filter_append,List.length_append,List.filter_cons,hu,if_neg (by simp)]
  have:=ih (by omega)
  simp
  omega
theorem Rare.parts(h:Rare rn cn ks){out:List (List Nat)}(hp:PartsTo (shareQ rn cn 2 ks) ks.length ks.length out):out.length+(downL ks).length=ks.length:=by
 have h1:=h.parts_to hp (Nat.le_refl _)
 rw[List.take_length,h.up_down]at h1
 exact h1
end
end Go.Proofs.YtifehdoghfnhoaaGreatDoor.Pa
namespace Go.Proofs.YtifehdoghfnhoaaGreatDoor.Pa
open Go.RowKit Go.PlainAid
open Go.Proofs.YtifehdoghfnhoaaGreatDoor.Sm (Lw PanOk atS atS_zero atS_succ seamsL seamsTo xsOf xsOf_get inS SmallT OrdsOk)
theorem knN_full(o:Nat->Nat->Bool)(cn:Nat):∀i,knN o cn i cn=knN o cn i 0++((List.range cn).filter (o i)).map λc=>(i,c)
 |0=>by simp[knN]
 |i+1=>by simp[knN]
theorem knN_next(o:Nat->Nat->Bool)(cn i:Nat):knN o cn (i+1) 0=knN o cn i 0++((List.range cn).filter (o i)).map λc=>(i,c):=by
 rw[knN_row,knN_full]
theorem knN_start(o:Nat->Nat->Bool)(cn:Nat):knN o cn 0 0=[]:=rfl
theorem knN_has{o:Nat->Nat->Bool}{cn a c:Nat}:∀{i:Nat},(a,c)∈knN o cn i 0↔a<i/\c<cn/\o a c=true
 |0=>by rw[knN_start];simp
 |i+1=>by
  rw[knN_next,List.mem_append,knN_has (i:=i),List.mem_map]
  constructor
  ·rintro(⟨h1,h2,h3⟩|⟨c',hc,he⟩)
   ·exact⟨by omega,h2,h3⟩
   ·obtain⟨h1,h2⟩:=List.mem_filter.1 hc
    cases he
    exact⟨by omega,List.mem_range.1 h1,h2⟩
  ·rintro⟨h1,h2,h3⟩
   by_cases e:a=i
   ·subst e
    exact .inr ⟨c,List.mem_filter.2 ⟨List.mem_range.2 h2,h3⟩,rfl⟩
   ·exact .inl ⟨by omega,h2,h3⟩
theorem knN_ord(o:Nat->Nat->Bool)(cn:Nat):∀i,(knN o cn i 0).Pairwise (λx y=>x.1<y.1\/(x.1=y.1/\x.2<y.2))
 |0=>List.Pairwise.nil
 |i+1=>by
  rw[knN_next,List.pairwise_append]
  refine⟨knN_ord o cn i,?_,λx hx y hy=>?_⟩
  ·rw[List.pairwise_map]
   exact(List.pairwise_lt_range.filter _).imp (λh=>.inr ⟨rfl,h⟩)
  ·obtain⟨c,_,rfl⟩:=List.mem_map.1 hy
   obtain⟨x1,x2⟩:=x
   exact .inl (knN_has.1 hx).1
theorem knN_congr{o o':Nat->Nat->Bool}{cn:Nat}:∀{i:Nat},(∀a c,a<i->c<cn->o a c=o' a c)->knN o cn i 0=knN o' cn i 0
 |0,_=>rfl
 |i+1,h=>by
  rw[knN_next,knN_next,knN_congr (i:=i) (λa c ha hc=>h a c (by omega) hc)]
  congr 2
  exact List.filter_congr λc hc=>h i c (by omega) (List.mem_range.1 hc)
def rowG(o:Nat->Bool)(n:Nat):ByteArray:=⟨((List.range n).map λi=>bif o i then(111:UInt8)else 46).toArray⟩
theorem rowG_succ(o:Nat->Bool)(n:Nat):rowG o n++⟨#[bif o n then 111 else 46]⟩=rowG o (n+1):=by
 apply ByteArray.ext
 simp[rowG,List.range_succ,ByteArray.data_append]
theorem rowG_yes{o:Nat->Bool}{n:Nat}(h:o n=true):rowG o n++⟨#[111]⟩=rowG o (n+1):=by
 rw[<-rowG_succ,h]
 rfl
theorem rowG_no{o:Nat->Bool}{n:Nat}(h:o n=false):rowG o n++⟨#[46]⟩=rowG o (n+1):=by
 rw[<-rowG_succ,h]
 rfl
theorem rowG_size(o:Nat->Bool)(n:Nat):(rowG o n).size=n:=by simp[rowG,ByteArray.size]
theorem rowG_get(o:Nat->Bool)(n k:Nat)(h:k<(rowG o n).size):(rowG o n)[k]=bif o k then 111 else 46:=by
 show(rowG o n).data[k]=_
 simp[rowG]
theorem bt_rowG(o:Nat->Bool)(n k:Nat):bt (rowG o n) k=if k<n then(bif o k then 111 else 46)else 0:=by
 unfold bt
 by_cases h:k<n
 ·rw[dif_pos (by rw[rowG_size];exact h),if_pos h,rowG_get]
  cases o k<;>rfl
 ·rw[dif_neg (by rw[rowG_size];exact h),if_neg h]
def hasB(xs:List Int)(c:Nat):Bool:=xs.any λy=>y==(c:Int)+1
theorem hasB_is{xs:List Int}{c:Nat}:hasB xs c=true↔((c:Int)+1)∈xs:=by
 unfold hasB
 rw[List.any_eq_true]
 constructor
 ·rintro⟨y,hy,he⟩
  rw[<-(beq_iff_eq.1 he)]
  exact hy
 ·exactλh=>⟨_,h,by simp⟩
def sheetR(cn:Nat)(S:List (List Int)):List ByteArray:=S.map λxs=>rowG (hasB xs) cn
def oS(S:List (List Int))(a c:Nat):Bool:=match S[a]? with
 |some xs=>hasB xs c
 |none=>false
def ksS(cn:Nat)(S:List (List Int)):List (Nat×Nat):=knN (oS S) cn S.length 0
theorem sheet_at(cn:Nat)(S:List (List Int))(a c:Nat)(hc:c<cn):atB (sheetR cn S) 111 a c=oS S a c:=by
 unfold atB oS sheetR
 rw[List.getElem?_map]
 cases S[a]? with
 |none=>rfl
 |some xs=>
  show decide (bt (rowG (hasB xs) cn) c=111)=hasB xs c
  rw[bt_rowG,if_pos hc]
  cases hasB xs c<;>rfl
theorem sheet_knots(cn:Nat)(S:List (List Int)):knN (atB (sheetR cn S) 111) cn S.length 0=ksS cn S:=knN_congr λa c _ hc=>sheet_at cn S a c hc
theorem sheet_35(cn:Nat)(S:List (List Int))(a c:Nat):atB (sheetR cn S) 35 a c=false:=by
 unfold atB sheetR
 rw[List.getElem?_map]
 cases S[a]? with
 |none=>rfl
 |some xs=>
  show decide (bt (rowG (hasB xs) cn) c=35)=false
  rw[bt_rowG]
  split
  ·cases hasB xs c<;>decide
  ·decide
theorem sheet_ch(cn:Nat)(S:List (List Int)):∀s∈sheetR cn S,∀k,k<cn->bt s k=46\/bt s k=111:=by
 intro s hs k hk
 obtain⟨xs,_,rfl⟩:=List.mem_map.1 hs
 rw[bt_rowG,if_pos hk]
 cases hasB xs k with
 |true=>exact .inr rfl
 |false=>exact .inl rfl
structure Seamy(cn:Nat)(S:List (List Int)):Prop where
 rng:∀xs∈S,∀x∈xs,1<=x/\x<=cn
 apart:∀xs∈S,xs.Pairwise λx y=>x+2<=y
theorem row_count{cn:Nat}{xs:List Int}(h1:∀x∈xs,1<=x/\x<=cn)(h2:xs.Pairwise λx y=>x+2<=y):((List.range cn).filter (hasB xs)).length=xs.length:=by
 refine Nat.le_antisymm ?_ ?_
 ·refine rel_len (λ(c:Nat)(x:Int)=>x=(c:Int)+1) _ _ (λc hc=>?_) ((List.nodup_range.filter _).imp λ{a b}hne q ha hb=>hne (by omega))
  exact⟨_,hasB_is.1 (List.mem_filter.1 hc).2,rfl⟩
 ·refine rel_len (λ(x:Int)(c:Nat)=>x=(c:Int)+1) _ _ (λx hx=>?_) (h2.imp λ{a b}hlt q ha hb=>by omega)
  have h3:=h1 x hx
  refine⟨x.toNat-1,List.mem_filter.2 ⟨List.mem_range.2 (by omega),hasB_is.2 ?_⟩,by omega⟩
  rw[show(((x.toNat-1:Nat):Int))+1=x by omega]
  exact hx
theorem oS_some{S:List (List Int)}{a c:Nat}:oS S a c=true↔∃xs,S[a]? =some xs/\((c:Int)+1)∈xs:=by
 unfold oS
 cases h:S[a]? with
 |none=>simp
 |some xs=>
  show hasB xs c=true↔_
  rw[hasB_is]
  simp
theorem ks_len{cn:Nat}{S:List (List Int)}(h:Seamy cn S):(ksS cn S).length=(S.map List.length).sum:=by
 have key:∀i,i<=S.length->(knN (oS S) cn i 0).length=((S.take i).map List.length).sum:=by
  intro i
  induction i with
  |zero=>intro _;simp[knN]
  |succ i ih=>
   intro hi
   have hlt:i<S.length:=by omega
   rw[knN_next,List.length_append,ih (by omega),List.length_map,List.take_succ_eq_append_getElem hlt,List.map_append,List.sum_append]
   have:(List.range cn).filter (oS S i)=(List.range cn).filter (hasB S[i]):=List.filter_congr λc _=>by
    unfold oS
    rw[List.getElem?_eq_getElem hlt]
   rw[this,row_count (h.rng _ (List.getElem_mem hlt)) (h.apart _ (List.getElem_mem hlt))]
   simp
 have:=key S.length (Nat.le_refl _)
 rw[List.take_length]at this
 exact this
theorem ks_gap{cn:Nat}{S:List (List Int)}(h:Seamy cn S)(a c:Nat)(h1:(a,c)∈ksS cn S):(a,c+1)∉ksS cn S:=by
 intro h2
 obtain⟨xs,e1,m1⟩:=oS_some.1 (knN_has.1 h1).2.2
 obtain⟨ys,e2,m2⟩:=oS_some.1 (knN_has.1 h2).2.2
 rw[e1]at e2
 cases e2
 have hp:=h.apart xs (List.mem_of_getElem? e1)
 obtain⟨i,hi,e3⟩:=List.getElem_of_mem m1
 obtain⟨j,hj,e4⟩:=List.getElem_of_mem m2
 rcases Nat.lt_trichotomy i j with hij|hij|hij
 ·have:=List.pairwise_iff_getElem.1 hp i j hi hj hij
  omega
 ·subst hij
  omega
 ·have:=List.pairwise_iff_getElem.1 hp j i hj hi hij
  omega
theorem seamy_rare{cn:Nat}{S:List (List Int)}(h:Seamy cn S)(hs:S.length<=6)(hc:cn<=6)(h10:(S.map List.length).sum<=10):Rare S.length cn (ksS cn S):=
 ⟨hs,hc,by rw[ks_len h];exact h10,λx hx=>by
   obtain⟨x1,x2⟩:=x
   have:=knN_has.1 hx
   exact⟨this.1,this.2.1⟩,knN_ord _ _ _,ks_gap h⟩
theorem joinT:∀l:List (List UInt8),Lib.joinTail [] l=l.flatten
 |[]=>rfl
 |x::l=>by
  have:=joinT l
  unfold Lib.joinTail at this ⊢
  simp at this ⊢
theorem join_flat(l:List (List UInt8)):Lib.join l []=l.flatten:=by
 cases l with
 |nil=>rfl
 |cons x l=>rw[Lib.join_cons,joinT];rfl
theorem join_sheet(cn:Nat)(S:List (List Int)):joinB (sheetR cn S)=(S.map λxs=>(List.range cn).map λi=>bif hasB xs i then(111:UInt8)else 46).flatten:=by
 unfold joinB sheetR
 rw[join_flat,List.map_map]
 congr 1
theorem trim_all'{l cs:List UInt8}(h:∀x∈l,cs.contains x=true):Lib.trimS l cs=[]:=by
 unfold Lib.trimS
 rw[Lib.trimRightS_take l cs 0 (Nat.zero_le _) (λj x _ hx=>h x (List.mem_of_getElem? hx)) (λx h0=>by omega)]
 rfl
theorem count_row(o:Nat->Bool)(n:Nat):((List.range n).map λi=>bif o i then(111:UInt8)else 46).count 111=((List.range n).filter o).length:=by
 rw[List.count_eq_length_filter,List.filter_map,List.length_map]
 congr 1
 refine List.filter_congr λi _=>?_
 show((bif o i then(111:UInt8)else 46)==111)=o i
 cases o i<;>rfl
theorem count_all{cn:Nat}:∀{S:List (List Int)},Seamy cn S->((S.map λxs=>(List.range cn).map λi=>bif hasB xs i then(111:UInt8)else 46).flatten).count 111=(S.map List.length).sum
 |[],_=>rfl
 |xs::S,h=>by
  have h1:=count_all (S:=S) ⟨λys hy=>h.rng ys (by simp[hy]),λys hy=>h.apart ys (by simp[hy])⟩
  rw[List.map_cons,List.flatten_cons,List.count_append,h1,count_row,row_count (h.rng xs (by simp)) (h.apart xs (by simp)),List.map_cons,List.sum_cons]
theorem len_all(cn:Nat):∀S:List (List Int),((S.map λxs=>(List.range cn).map λi=>bif hasB xs i then(111:UInt8)else 46).flatten).length=S.length*cn
 |[]=>by simp
 |xs::S=>by
  rw[List.map_cons,List.flatten_cons,List.length_append,len_all cn S,List.length_cons,Nat.succ_mul,List.length_map,List.length_range]
  omega
theorem sheet_shok{cn:Nat}{S:List (List Int)}(h:Seamy cn S)(h1:1<=S.length)(hs:S.length<=6)(hc1:1<=cn)(hc:cn<=6)(h10:(S.map List.length).sum<=10):ShOk S.length cn 2 (sheetR cn S):=by
 refine⟨h1,hs,λs hs'=>?_,hc1,hc,by omega,by omega,?_,?_,?_⟩
 ·obtain⟨xs,_,rfl⟩:=List.mem_map.1 hs'
  exact rowG_size _ _
 ·rw[join_sheet]
  refine trim_all' λx hx=>?_
  obtain⟨l,hl,hx⟩:=List.mem_flatten.1 hx
  obtain⟨xs,_,rfl⟩:=List.mem_map.1 hl
  obtain⟨i,_,rfl⟩:=List.mem_map.1 hx
  cases hasB xs i<;>decide
 ·rw[join_sheet]
  unfold Lib.countByte
  rw[count_all h]
  exact h10
 ·rw[join_sheet,len_all]
  have:=Nat.mul_le_mul hs hc
  omega
def meetP(cn:Nat)(S:List (List Int)):List (Nat×Nat):=(downL (ksS cn S)).map λx=>(x.1,x.2+1)
theorem meetP_len(cn:Nat)(S:List (List Int)):(meetP cn S).length=(downL (ksS cn S)).length:=by simp[meetP]
theorem meetP_nodup(cn:Nat)(S:List (List Int)):(meetP cn S).Nodup:=by
 unfold meetP downL
 rw[List.nodup_iff_pairwise_ne,List.pairwise_map]
 refine((knN_ord _ _ _).filter _).imp (λ{x y}hxy e=>?_)
 have h1:=congrArg Prod.fst e
 have h2:=congrArg Prod.snd e
 simp only at h1 h2
 omega
theorem inS_is{cn:Nat}{S:List (List Int)}(h:Seamy cn S){f x:Nat}:inS S f x↔∃c,x=c+1/\(f,c)∈ksS cn S:=by
 constructor
 ·rintro⟨xs,e,m⟩
  have hr:=h.rng xs (List.mem_of_getElem? e) _ m
  refine⟨x-1,by omega,knN_has.2 ⟨(List.getElem?_eq_some_iff.1 e).1,by omega,oS_some.2 ⟨xs,e,?_⟩⟩⟩
  rw[show(((x-1:Nat):Int))+1=(x:Int)by omega]
  exact m
 ·rintro⟨c,rfl,hm⟩
  obtain⟨xs,e,m⟩:=oS_some.1 (knN_has.1 hm).2.2
  exact⟨xs,e,by exact_mod_cast m⟩
theorem meetP_is{cn:Nat}{S:List (List Int)}(h:Seamy cn S)(f x:Nat):(inS S f x/\inS S (f+1) x)↔(f,x)∈meetP cn S:=by
 rw[inS_is h,inS_is h]
 constructor
 ·rintro⟨⟨c,rfl,h1⟩,c',e,h2⟩
  obtain rfl:c=c':=by omega
  refine List.mem_map.2 ⟨(f,c),List.mem_filter.2 ⟨h1,?_⟩,rfl⟩
  rw[decide_eq_true_eq]
  exact h2
 ·intro hm
  obtain⟨⟨a,c⟩,hx,he⟩:=List.mem_map.1 hm
  obtain⟨h1,h2⟩:=List.mem_filter.1 hx
  rw[decide_eq_true_eq]at h2
  cases he
  exact⟨⟨c,rfl,h1⟩,c,rfl,h2⟩
theorem seamy_small{cn:Nat}{S:List (List Int)}(h:Seamy cn S)(hs:S.length<=6)(hc:cn<=6):SmallT S:=by
 refine⟨by omega,λxs hx=>⟨?_,λx hxx=>?_⟩⟩
 ·rw[<-row_count (h.rng xs hx) (h.apart xs hx)]
  have:=List.length_filter_le (hasB xs) (List.range cn)
  rw[List.length_range]at this
  omega
 ·have:=h.rng xs hx x hxx
  omega
theorem sum_perm{l l':List Int}(h:l.Perm l'):l.sum=l'.sum:=by
 induction h with
 |nil=>rfl
 |cons x _ ih=>simp[ih]
 |swap x y l=>simp;omega
 |trans _ _ ih1 ih2=>exact ih1.trans ih2
theorem sum_range(xs:List Int):((List.range xs.length).map λj=>xs.getD j 0).sum=xs.sum:=by
 congr 1
 refine List.ext_getElem (by simp) λi h1 h2=>?_
 simp[List.getD,h2]
theorem at_full{xs:List Int}{l:List Nat}(h:l.Perm (List.range xs.length)):atS xs (castL l) xs.length=xs.sum:=by
 unfold atS
 have hl:(castL l).length=xs.length:=by rw[castL_len,h.length_eq,List.length_range]
 rw[<-hl,List.take_length,<-sum_range xs]
 refine Eq.trans ?_ (sum_perm (h.map λj=>xs.getD j 0))
 congr 1
 unfold castL
 rw[List.map_map]
 rfl
theorem at_step{xs:List Int}{l:List Nat}(h:l.Perm (List.range xs.length))(h2:∀x∈xs,2<=x){j:Nat}(hj:j<xs.length):atS xs (castL l) j+2<=atS xs (castL l) (j+1):=by
 have hl:l.length=xs.length:=by rw[h.length_eq,List.length_range]
 have hjl:j<l.length:=by omega
 have ho:=List.mem_range.1 (h.mem_iff.1 (List.getElem_mem hjl))
 have e:(castL l)[j]? =some ((l[j]:Nat):Int):=by
  unfold castL
  rw[List.getElem?_map,List.getElem?_eq_getElem hjl]
  rfl
 rw[atS_succ e (List.getElem?_eq_getElem ho)]
 have:=h2 _ (List.getElem_mem ho)
 omega
theorem at_gap{xs:List Int}{l:List Nat}(h:l.Perm (List.range xs.length))(h2:∀x∈xs,2<=x){i:Nat}:∀{j:Nat},i<j->j<=xs.length->atS xs (castL l) i+2<=atS xs (castL l) j
 |0,h0,_=>by omega
 |j+1,h0,hj=>by
  have h1:=at_step h h2 (j:=j) (by omega)
  by_cases e:i=j
  ·rw[e];exact h1
  ·have:=at_gap h h2 (i:=i) (j:=j) (by omega) (by omega)
   omega
theorem seams_ok{xs:List Int}{l:List Nat}(h:l.Perm (List.range xs.length))(h2:∀x∈xs,2<=x):(∀x∈seamsL xs (castL l) (xs.length-1),2<=x/\x+2<=xs.sum)/\(seamsL xs (castL l) (xs.length-1)).Pairwise λx y=>x+2<=y:=by
 unfold seamsL
 refine⟨λx hx=>?_,?_⟩
 ·obtain⟨j,hj,rfl⟩:=List.mem_map.1 hx
  have hj':=List.mem_range.1 hj
  have a1:=at_gap h h2 (i:=0) (j:=j+1) (by omega) (by omega)
  have a2:=at_gap h h2 (i:=j+1) (j:=xs.length) (by omega) (Nat.le_refl _)
  rw[atS_zero]at a1
  rw[at_full h]at a2
  omega
 ·rw[List.pairwise_map]
  refine List.Pairwise.imp_of_mem (λ{a b}ha hb hab=>?_) List.pairwise_lt_range
  have:=List.mem_range.1 hb
  exact at_gap h h2 (by omega) (by omega)
theorem seamy_of{ls ords:List Lw}{out:List (List Nat)}{cn:Nat}(hls:∀r∈ls,r.n=r.xs.length)(h2:∀r∈ls,∀x∈r.xs,2<=x)(hsum:∀r∈ls,r.xs.sum=(cn:Int)+1)(hout:OrdsTo ls out)(hol:out.length=ls.length)(hmap:ords.map (·.xs)=out.map castL):Seamy cn (seamsTo ls ords ls.length):=by
 have key:∀xs∈seamsTo ls ords ls.length,(∀x∈xs,1<=x/\x<=cn)/\xs.Pairwise λx y=>x+2<=y:=by
  intro xs hx
  obtain⟨j,hj,rfl⟩:=List.mem_map.1 hx
  have hj':=List.mem_range.1 hj
  have hjo:j<out.length:=by omega
  have e1:=List.getElem?_eq_getElem hj'
  have hrm:=List.getElem_mem hj'
  have e2:(ords.map (·.xs))[j]? =some (castL out[j]):=by rw[hmap,List.getElem?_map,List.getElem?_eq_getElem hjo];rfl
  rw[List.getElem?_map]at e2
  obtain⟨o,ho1,ho2⟩:=Option.map_eq_some_iff.1 e2
  rw[xsOf_get e1,xsOf_get ho1,ho2]
  have hp:=hout j _ _ e1 (List.getElem?_eq_getElem hjo)
  rw[hls _ hrm]at hp
  obtain⟨s1,s2⟩:=seams_ok hp (h2 _ hrm)
  refine⟨λx hx=>?_,s2⟩
  have:=s1 x hx
  rw[hsum _ hrm]at this
  omega
 exact⟨λxs hx=>(key xs hx).1,λxs hx=>(key xs hx).2⟩
theorem seamsTo_len(ls ords:List Lw)(k:Nat):(seamsTo ls ords k).length=k:=by simp[seamsTo]
theorem seams_sum(ls ords:List Lw):((seamsTo ls ords ls.length).map List.length).sum=(ls.map λr=>r.xs.length-1).sum:=by
 congr 1
 unfold seamsTo
 rw[List.map_map]
 refine List.ext_getElem (by simp) λi h1 h3=>?_
 have hi:i<ls.length:=by simpa using h3
 simp only[List.getElem_map,List.getElem_range,Function.comp]
 rw[Sm.seamsL_len,xsOf_get (List.getElem?_eq_getElem hi)]
theorem ordsOk_of{ls ords:List Lw}{out:List (List Nat)}(hout:OrdsTo ls out)(hol:out.length=ls.length)(hmap:ords.map (·.xs)=out.map castL):OrdsOk ls ords:=by
 have hlen:ords.length=out.length:=by
  have:=congrArg List.length hmap
  simpa using this
 refine⟨by omega,λj r o hr ho=>?_⟩
 have e2:(ords.map (·.xs))[j]? =some o.xs:=by rw[List.getElem?_map,ho];rfl
 rw[hmap,List.getElem?_map]at e2
 obtain⟨l,hl1,hl2⟩:=Option.map_eq_some_iff.1 e2
 rw[<-hl2]
 exact ordOk_perm (hout j r l hr hl1)
end Go.Proofs.YtifehdoghfnhoaaGreatDoor.Pa
namespace Go.Proofs.YtifehdoghfnhoaaGreatDoor.Pa
open Go.RowKit Go.Shelf
open Go.Proofs.YtifehdoghfnhoaaGreatDoor.Sm (Lw encLw PanIn PanOk ltLw OrdOk OrdsOk seamsTo)
theorem chosen_ln(LA:Option Addr)(ln lc:Nat)(ls:List Lw)(BA:Option Addr)(bn bc:Nat)(bs:List Nat)(w:World)(hp:PanIn w LA ln lc ls)(hb:Sl 1 encB w w.heap.size BA bn bc bs)(hbs:∀x∈bs,x<=255)(hbn:bn<=100)(hln:ln<=100)(hrn:∀r∈ls,1<=r.n/\r.n<=100):
 Calls Tryz.prog 17 #[.agg #[.slice LA ln lc],.slice BA bn bc] w λe w'=>∃A c out ords,e=.returned (.slice A ln c)/\Below w.heap.size w w'/\PanIn w' A ln c ords/\OrdsTo ls out/\out.length=ln/\ords.map (·.xs)=out.map castL:=by
 refine(chosen_ok LA ln lc ls BA bn bc bs w hp hb hbs hbn hln hrn).mono ?_
 rintro e w'⟨A,c,out,rfl,hb,hsl,hol,hot⟩
 obtain⟨ords,h1,h2,_⟩:=panIn_of hsl
 rw[hol]at h1
 exact⟨A,c,out,ords,by rw[hol],hb,h1,hot,hol,h2⟩
theorem seams_ln(LA:Option Addr)(ln lc:Nat)(ls:List Lw)(OA:Option Addr)(on oc:Nat)(ords:List Lw)(w:World)(hp:PanIn w LA ln lc ls)(hok:PanOk ls)(ho:PanIn w OA on oc ords)(hoo:OrdsOk ls ords):
 Calls Tryz.prog 18 #[.agg #[.slice LA ln lc],.slice OA on oc] w λe w'=>∃A c L,e=.returned (.tuple #[.slice A ln c,.int .i64 0])/\Below w.heap.size w w'/\PanIn w' A ln c L/\L.map (·.xs)=seamsTo ls ords ls.length:=by
 refine(Sm.Seams_ok LA ln lc ls OA on oc ords w hp hok ho hoo).mono ?_
 rintro e w'⟨A,c,L,rfl,hb,hpl,hm⟩
 have h1:L.length=ln:=by
  have h2:=congrArg List.length hm
  rw[List.length_map,seamsTo_len]at h2
  rw[h2]
  exact hp.sl.len
 rw[h1]at hpl
 exact⟨A,c,L,by rw[h1],hb,hpl,hm⟩
def fewS(cn:Nat)(S:List (List Int)):Nat:=(mendL (liesQ S.length cn 2 (ksS cn S)) (wtQ (ksS cn S)) (ksS cn S).length).length
theorem sheet_calls{cn ln kn m:Nat}{S:List (List Int)}(hS:Seamy cn S)(hln:S.length=ln)(h1:1<=ln)(h6:ln<=6)(hc1:1<=cn)(hc6:cn<=6)(hkn:(S.map List.length).sum=kn)(h10:kn<=10)(hm:(meetP cn S).length=m):
 (fewS cn S<=kn/\kn<=fewS cn S+m/\kn<=2*fewS cn S)/\∀(A:Option Addr)(c:Nat)(W:World),Sl 1 encB8 W W.heap.size A ln c (sheetR cn S)->
   (Calls Tryz.prog 21 #[.agg #[.slice A ln c,.int .i64 2]] W λe W'=>e=.returned (.int .i64 0)/\Below W.heap.size W W')/\
   (Calls Tryz.prog 6 #[.agg #[.slice A ln c,.int .i64 2]] W λe W'=>∃A' c',e=.returned (.slice A' kn c')/\Below W.heap.size W W')/\
   (Calls Tryz.prog 22 #[.agg #[.slice A ln c,.int .i64 2]] W λe W'=>∃A' c' pl,e=.returned (.tuple #[.slice A' pl c',.int .i64 0])/\Below W.heap.size W W'/\pl+m=kn)/\
   (Calls Tryz.prog 7 #[.agg #[.slice A ln c,.int .i64 2]] W λe W'=>e=.returned (.tuple #[.int .i64 (fewS cn S:Nat),.int .i64 0])/\Below W.heap.size W W'):=by
 subst hln
 have hrare:=seamy_rare hS h6 hc6 (by omega)
 have hok:=sheet_shok hS h1 h6 hc1 hc6 (by omega)
 have hlen:=ks_len hS
 have hkl:(ksS cn S).length=kn:=by omega
 have hds:(downL (ksS cn S)).length=m:=by rw[<-meetP_len];exact hm
 refine⟨?_,λA c W hs=>⟨?_,?_,?_,?_⟩⟩
 ·have:=hrare.few
  rw[hkl,hds]at this
  unfold fewS
  rw[hkl]
  exact this
 ·exact refSheet_ok A S.length c 2 cn (sheetR cn S) W hs hok (by rw[sheet_knots];omega) (sheet_ch cn S)
 ·refine(knots_ok A S.length c 2 cn (sheetR cn S) W hs h6 hok.sz hc6).mono ?_
  rintro e W'⟨A',c',rfl,hb,_⟩
  rw[sheet_knots,hkl]
  exact⟨A',c',rfl,hb⟩
 ·refine(Parts_ok A S.length c 2 cn (sheetR cn S) W hs hok (by rw[sheet_knots];omega) (sheet_35 cn S)).mono ?_
  rintro e W'⟨A',c',out,rfl,hb,hp⟩
  rw[sheet_knots]at hp
  have:=hrare.parts hp
  rw[hkl,hds]at this
  exact⟨A',c',out.length,rfl,hb,this⟩
 ·have h:=Fewest_ok A S.length c 2 cn (sheetR cn S) W hs hok (by rw[sheet_knots];omega) (sheet_35 cn S)
  rw[sheet_knots]at h
  exact h
theorem und_strs:Tryz.prog.underlying 22=some (.slice 9):=by kernel_rfl
theorem info_str:(Tryz.prog.info? 9).map (λi=>(i.zero,i.size,i.bytes))=some (some (.string ⟨#[]⟩),1,16):=by kernel_rfl
structure ShW(V W:World)(v:Value)(rows:List ByteArray):Prop where
 bel:Below V.heap.size V W
 b0:Blk W V.heap.size 24 #[v,.int .i64 2]
 own:W.ownsRow (V.heap.size+1) 9 1 v rows.length (rows.map Value.string)
section
variable{V W W':World}{v v':Value}{rows:List ByteArray}{s:ByteArray}
theorem ShW.later(h:ShW V W v rows)(hb:Below W.heap.size W W'):ShW V W' v rows:=⟨Below.later h.bel hb,h.b0.later hb,owL h.own hb⟩
theorem ShW.grown(h:ShW V W v rows)(hg:W.grownBy W' v.ownBlock)(ho:W'.ownsRow (V.heap.size+1) 9 1 v' (rows.length+1) (rows.map Value.string++[.string s])):ShW V (W'.setCell ⟨V.heap.size,0,none⟩ v') v' (rows++[s]):=by
 have hne:v.ownBlock≠some V.heap.size:=λe=>by
  have:=own_base h.own _ e
  omega
 refine⟨bset (below_row h.bel hg (λg e=>by have:=own_base h.own g e;omega) h.bel.size) (Nat.le_refl _) _,?_,?_⟩
 ·have h1:=(h.b0.grown hg hne).set 0 v'
  exact h1
 ·refine own_other ?_ _ (λe=>?_) _
  ·simpa using ho
  ·have:=own_base ho _ e
   simp at this
   omega
theorem ShW.sl(h:ShW V W v rows){n:Nat}(hn:rows.length=n):∃A c,v=.slice A n c/\Sl 1 encB8 W W.heap.size A n c rows:=by
 have e1:∀l:List ByteArray,l.flatMap encB8=l.map Value.string:=λl=>by
  induction l with
  |nil=>rfl
  |cons t l ih=>rw[List.flatMap_cons,ih];rfl
 have h1:=h.own
 rw[<-e1]at h1
 exact own_slG (enc:=encB8) (k:=1) (λ_=>rfl) (by rw[hn]at h1;exact h1) hn
end
structure SX(V W:World)(A:Option Addr)(n c:Nat)(rows:List ByteArray):Prop where
 bel:Below V.heap.size V W
 b0:Blk W V.heap.size 24 #[.slice A n c,.int .i64 2]
 sl:Sl 1 encB8 W W.heap.size A n c rows
theorem SX.later{V W W':World}{A:Option Addr}{n c:Nat}{rows:List ByteArray}(h:SX V W A n c rows)(hb:Below W.heap.size W W'):SX V W' A n c rows:=⟨Below.later h.bel hb,h.b0.later hb,h.sl.later hb⟩
theorem sum_ge2{l:List Int}(h1:1<=l.length)(h2:∀x∈l,2<=x):2<=l.sum:=by
 have h3:∀l:List Int,(∀x∈l,2<=x)->0<=l.sum:=by
  intro l
  induction l with
  |nil=>intro _;simp
  |cons x l ih=>
   intro h
   have:=ih (λy hy=>h y (by simp[hy]))
   have:=h x (by simp)
   simp
   omega
 cases l with
 |nil=>simp at h1
 |cons x l=>
  have:=h3 l (λy hy=>h2 y (by simp[hy]))
  have:=h2 x (by simp)
  simp
  omega
theorem sum_take{ls:List Lw}{f:Lw->Nat}{i:Nat}{r:Lw}(hr:ls[i]? =some r):((ls.take (i+1)).map f).sum=((ls.take i).map f).sum+f r:=by
 obtain⟨h1,h2⟩:=List.getElem?_eq_some_iff.1 hr
 rw[List.take_succ_eq_append_getElem h1,h2]
 simp
set_option maxRecDepth 100000 in
set_option maxHeartbeats 16000000 in
theorem pseam_law(H5:Hid (∀W:World,Calls Tryz.prog 15 #[] W (λe W'=>e=.returned (.bool true)/\Gr W W')))(LA:Option Addr)(ln lc:Nat)(ls:List Lw)(BA:Option Addr)(bn bc:Nat)(bs:List Nat)(w:World)(hp:PanIn w LA ln lc ls)(hb:Sl 1 encB w w.heap.size BA bn bc bs)(hbs:∀x∈bs,x<256):
 Calls Tryz.prog 4 #[.agg #[.slice LA ln lc],.slice BA bn bc] w λe w'=>e=.returned (.bool true)/\Below w.heap.size w w':=by
 have HC0:=Lib.hid (show CW0 w (w.alloc (.cells #[.slice LA ln lc] 55)) LA ln lc ls BA bn bc bs from⟨balloc (brefl w) _,Blk.new w _ _,hp,hb⟩)
 have hlcap:=hp.sl.cap
 have hlbig:=hp.sl.big
 have hbcap:=hb.cap
 have hbbig:=hb.big
 have Hbs:=Lib.hid (show∀x∈bs,x<=255 fromλx hx=>by have:=hbs x hx;omega)
 have Hl:=Lib.hid (show ls.length=ln from hp.sl.len)
 have Hlen:=Lib.hid (λr(h:r∈ls)=>(hp.rows r h).len)
 have c0:=HC0.out.b0.cell 0
 have c1:=HC0.out.b0.lt
 clear hp hb hbs
 by_cases h4:(4:Int)<(ln:Int)
 case pos=>
  go_enter Tryz.func4,Tryz.ntmps4
  go_wp2_with fail
  refine(H5.out _).mono ?_
  rintro e we⟨rfl,hbe⟩
  have HBE:=Lib.hid (Below.later HC0.out.bel hbe)
  clear hbe
  go_wp2
  go_ret
  exact⟨rfl,HBE.out⟩
 case neg=>
 by_cases h30:(30:Int)<(bn:Int)
 case pos=>
  go_enter Tryz.func4,Tryz.ntmps4
  go_wp2_with fail
  refine(H5.out _).mono ?_
  rintro e we⟨rfl,hbe⟩
  have HBE:=Lib.hid (Below.later HC0.out.bel hbe)
  clear hbe
  go_wp2
  go_ret
  exact⟨rfl,HBE.out⟩
 case neg=>
 go_enter Tryz.func4,Tryz.ntmps4
 go_wp2_with fail
 refine(refPan_any LA ln lc ls _ HC0.out.pan).mono ?_
 rintro e w1⟨q,rfl,hq,hb⟩
 have HC1:=Lib.hid (HC0.out.later hb)
 clear hb HC0 c0 c1
 have c0:=HC1.out.b0.cell 0
 have c1:=HC1.out.b0.lt
 by_cases hq0:q=0
 case neg=>
  have d1:(q != 0)=true:=by simpa using hq0
  clear hq hq0
  go_wp2_with fail
  refine(H5.out _).mono ?_
  rintro e we⟨rfl,hbe⟩
  have HBE:=Lib.hid (Below.later HC1.out.bel hbe)
  clear hbe
  go_wp2
  go_ret
  exact⟨rfl,HBE.out⟩
 case pos=>
 subst hq0
 have hok:=hq rfl
 have Hok:=Lib.hid hok
 have Hln:=Lib.hid (show ls.length=ln/\2<=ln/\ln<=4/\bn<=30 by have:=hok.l2;have:=hok.l4;have:=Hl.out;omega)
 obtain⟨b,o,rfl⟩:=panAddr HC1.out.pan0 (show 0<ln by have:=Hln.out;omega)
 have Hn5:=Lib.hid (show∀r∈ls,1<=r.n/\r.n<=5 fromλr hr=>by rw[<-Hlen.out r hr];exact hok.n1 r hr)
 obtain⟨r1,hr1⟩:∃r,ls[0]? =some r:=⟨_,List.getElem?_eq_getElem (by have:=Hln.out;omega)⟩
 have hm1:=List.mem_of_getElem? hr1
 obtain⟨wd,hwd⟩:∃x,r1.xs.sum=x:=⟨_,rfl⟩
 have Hw:=Lib.hid (λW(hs:Sl 1 encI W W.heap.size r1.A r1.n r1.c r1.xs)=>by
  have h1:=refSum_any r1.A r1.n r1.c r1.xs W hs (by have:=Hn5.out r1 hm1;omega) (λx hx=>by have:=Hok.out.x1 r1 hm1 x hx;omega)
  rw[hwd]at h1
  exact h1)
 have Hsum:=Lib.hid (show∀r∈ls,r.xs.sum=wd fromλr hr=>by rw[<-hwd];exact Hok.out.sum r hr r1 hm1)
 have Hm1:=Lib.hid (And.intro hm1 hwd)
 obtain⟨r0,rb,rs⟩:=panAt HC1.out.pan hr1
 rw[Nat.add_zero]at r0
 have HS:=Lib.hid rs
 have l1:(0:Int)<(ln:Int):=by have:=Hln.out;omega
 have l0:0<ln:=by have:=Hln.out;omega
 clear hq hok hr1 hm1 hwd rs
 go_wp2_with fail
 refine(Hw.out _ HS.out).mono ?_
 rintro e w2⟨rfl,hb⟩
 have HC2:=Lib.hid (HC1.out.later hb)
 clear hb HC1 HS c0 c1 r0 rb Hw
 go_wp2_with fail
 refine lpn (λq a W=>a.defers=[]/\∃i kn:Nat,i+q=ln/\CW0 w W (some ⟨b,o,none⟩) ln lc ls BA bn bc bs/\kn<=4*i/\((ls.take i).map λr=>r.xs.length-1).sum=kn/\(∀j r,j<i->ls[j]? =some r->∀x∈r.xs,2<=x)/\(0<i->wd<=7)/\Fits (none::some (.slice BA bn bc)::some (.pointer (some ⟨w.heap.size,0,none⟩))::none::none::some (.int .i64 wd)::some (.int .i64 (kn:Nat))::some (.int .i64 (i:Nat))::none::none::none::none::none::none::none::none::none::none::none::none::none::none::none::none::none::none::none::none::none::none::none::none::none::none::none::none::none::none::none::none::none::none::none::none::none::none::none::none::none::none::none::none::none::none::none::none::none::none::none::none::none::none::none::none::none::none::none::none::none::none::none::none::none::none::none::none::none::none::none::none::none::none::none::none::none::none::none::none::none::none::none::none::none::none::none::none::none::none::none::none::none::none::none::none::none::none::none::none::none::none::none::none::none::none::none::none::none::none::none::none::none::none::none::none::none::none::none::none::none::none::none::none::none::none::none::none::none::none::none::none::none::none::none::none::none::none::none::none::none::none::none::none::none::none::none::none::none::none::none::none::none::none::none::none::none::none::none::none::none::none::none::none::none::none::none::none::none::none::none::none::none::none::none::none::none::none::none::none::none::none::none::none::none::none::none::none::none::none::[]) a.tmps.toList) ln ?_ ?_
 ·refine⟨rfl,0,0,by omega,HC2.out,by omega,rfl,λj r h=>absurd h (by omega),λh=>absurd h (by omega),?_⟩
  repeat (first|exact ftL|refine ftN ?_|refine ftS ?_)
 clear HC2
 intro q a W hI K1 hK
 obtain⟨hds,i,kn,hiq,hC,hk4,hkn,h2x,hw7,hfit⟩:=hI
 obtain⟨f',hf'⟩:=ftA hfit
 rw[hds]at hf'
 subst hf'
 clear hfit hds
 simp only[fillP,Nat.reduceAdd]
 have HC1:=Lib.hid hC
 have c0:=hC.b0.cell 0
 have c1:=hC.b0.lt
 by_cases hlt:i<ln
 case pos=>
  obtain⟨r,hr⟩:∃r,ls[i]? =some r:=⟨_,List.getElem?_eq_getElem (by have:=Hln.out;omega)⟩
  have hn5:=Hn5.out r (List.mem_of_getElem? hr)
  have hrl:=Hlen.out r (List.mem_of_getElem? hr)
  obtain⟨dn,hdn⟩:∃d,r.n-1=d:=⟨_,rfl⟩
  have Hkn:=Lib.hid (show((ls.take (i+1)).map λr=>r.xs.length-1).sum=kn+dn from by rw[sum_take hr,hkn,hrl,hdn])
  have i1:(i:Int)<(ln:Int):=by omega
  have i2:(0:Int)<=(i:Int):=by omega
  have i3:IntKind.i64.wrap ((i:Int)+1)=(i:Int)+1:=by have:=Hln.out;rw[IntKind.wrap_i64];omega
  have i4:IntKind.i64.wrap ((r.n:Int)-1)=(dn:Int):=by rw[IntKind.wrap_i64];omega
  have i5:IntKind.i64.wrap ((kn:Int)+(dn:Int))=((kn+dn:Nat):Int):=by have:=Hln.out;rw[IntKind.wrap_i64];omega
  have Hr:=Lib.hid hr
  have H2x:=Lib.hid h2x
  have HK:=Lib.hid (@hK)
  have Hi:=Lib.hid (show i+q=ln/\i<ln/\kn+dn<=4*(i+1)from⟨hiq,hlt,by omega⟩)
  have Hrn:=Lib.hid hn5
  obtain⟨r0,rb,rs⟩:=panAt hC.pan hr
  have hrcap:=rs.cap
  obtain⟨W1,hW1⟩:∃W1,W=W1:=⟨_,rfl⟩
  subst hW1
  clear hr hn5 hrl hdn h2x hK rs hiq hC hk4 hkn hw7
  go_wp2_with fail
  clear c0 c1 r0 rb
  refine lpn (λq2 a W'=>a.defers=[]/\∃m:Nat,m+q2=r.n/\CW0 w W' (some ⟨b,o,none⟩) ln lc ls BA bn bc bs/\(∀j x,j<m->r.xs[j]? =some x->2<=x)/\(0<m->wd<=7)/\Fits (none::some (.slice BA bn bc)::some (.pointer (some ⟨w.heap.size,0,none⟩))::none::none::some (.int .i64 wd)::some (.int .i64 (kn+dn:Nat))::some (.int .i64 (i:Nat))::some (.int .i64 (m:Nat))::none::none::none::none::none::none::none::none::none::none::none::none::none::none::none::none::none::none::none::none::none::none::none::none::none::none::none::none::none::none::none::none::none::none::none::none::none::none::none::none::none::none::none::none::none::none::none::none::none::none::none::none::none::none::none::none::none::none::none::none::none::none::none::none::none::none::none::none::none::none::none::none::none::none::none::none::none::none::none::none::none::none::none::none::none::none::none::none::none::none::none::none::none::none::none::none::none::none::none::none::none::none::none::none::none::none::none::none::none::none::none::none::none::none::none::none::none::none::none::none::none::none::none::none::none::none::none::none::none::none::none::none::none::none::none::none::none::none::none::none::none::none::none::none::none::none::none::none::none::none::none::none::none::none::none::none::none::none::none::none::none::none::none::none::none::none::none::none::none::none::none::none::none::none::none::none::none::none::none::none::none::none::none::none::none::none::none::none::none::[]) a.tmps.toList) r.n ?_ ?_
  ·refine⟨rfl,0,by omega,HC1.out,λj x h=>absurd h (by omega),λh=>absurd h (by omega),?_⟩
   repeat (first|exact ftL|refine ftN ?_|refine ftS ?_)
  clear HC1
  intro q2 a W' hI2 K2 hK2
  obtain⟨hds,m,hmq,hC,h2y,hw7,hfit⟩:=hI2
  obtain⟨f',hf'⟩:=ftA hfit
  rw[hds]at hf'
  subst hf'
  clear hfit hds
  simp only[fillP,Nat.reduceAdd]
  have HC1:=Lib.hid hC
  have c0:=hC.b0.cell 0
  have c1:=hC.b0.lt
  obtain⟨r0,rb,rs⟩:=panAt hC.pan Hr.out
  by_cases hlm:m<r.n
  case pos=>
   obtain⟨b2,o2,x,hA2,hb2,hx2,x0⟩:=rs.ltI hlm
   have m1:(m:Int)<(r.n:Int):=by omega
   have m2:(0:Int)<=(m:Int):=by omega
   have m3:IntKind.i64.wrap ((m:Int)+1)=(m:Int)+1:=by have:=Hrn.out;rw[IntKind.wrap_i64];omega
   have Hy:=Lib.hid h2y
   have HK2:=Lib.hid (@hK2)
   have Hx2:=Lib.hid hx2
   have Hmq:=Lib.hid (show m+q2=r.n/\m<r.n from⟨hmq,hlm⟩)
   rw[hA2]at r0
   clear rs hA2 h2y hK2 hx2 hmq hC hw7
   by_cases g1:x<2
   case pos=>
    go_wp2_with fail
    refine(H5.out _).mono ?_
    rintro e we⟨rfl,hbe⟩
    have HBE:=Lib.hid (Below.later HC1.out.bel hbe)
    clear hbe
    go_wp2
    go_ret
    exact⟨rfl,HBE.out⟩
   case neg=>
   by_cases g2:7<wd
   case pos=>
    go_wp2_with fail
    refine(H5.out _).mono ?_
    rintro e we⟨rfl,hbe⟩
    have HBE:=Lib.hid (Below.later HC1.out.bel hbe)
    clear hbe
    go_wp2
    go_ret
    exact⟨rfl,HBE.out⟩
   case neg=>
   have Hg:=Lib.hid (show 2<=x/\wd<=7 by omega)
   go_wp2_with fail
   obtain⟨j1,j2⟩:=Hmq.out
   refine HK2.out _ _ (q2-1) (by omega) ⟨rfl,m+1,by omega,HC1.out,λj y hj hy=>?_,λ_=>Hg.out.2,?_⟩
   ·by_cases hji:j=m
    ·subst hji
     rw[Hx2.out]at hy
     cases hy
     exact Hg.out.1
    ·exact Hy.out j y (by omega) hy
   ·repeat (first|exact ftL|refine ftN ?_|refine ftS ?_)
  case neg=>
  have m1:¬((m:Int)<(r.n:Int)):=by omega
  have Hrow:=Lib.hid (show(∀x∈r.xs,2<=x)/\wd<=7 from⟨λx hx=>by
   obtain⟨j,hj,hjx⟩:=List.getElem_of_mem hx
   exact h2y j x (by have:=rs.len;omega) (by rw[List.getElem?_eq_getElem hj,hjx]),hw7 (by have:=Hrn.out;omega)⟩)
  clear rs h2y hK2 hmq hC hw7
  go_wp2_with fail
  obtain⟨j1,j2,j3⟩:=Hi.out
  refine HK.out _ _ (q-1) (by omega) ⟨rfl,i+1,kn+dn,by omega,HC1.out,j3,Hkn.out,λj y hj hy=>?_,λ_=>Hrow.out.2,?_⟩
  ·by_cases hji:j=i
   ·subst hji
    rw[Hr.out]at hy
    cases hy
    exact Hrow.out.1
   ·exact H2x.out j y (by omega) hy
  ·repeat (first|exact ftL|refine ftN ?_|refine ftS ?_)
 case neg=>
 have hie:ln=i:=by omega
 subst hie
 have H2:=Lib.hid (show∀r∈ls,∀x∈r.xs,2<=x fromλr hr=>by
  obtain⟨j,hj,hjr⟩:=List.getElem_of_mem hr
  exact h2x j r (by have:=Hln.out;omega) (by rw[List.getElem?_eq_getElem hj,hjr]))
 have Hkn:=Lib.hid (show(ls.map λr=>r.xs.length-1).sum=kn from by rw[<-hkn,<-Hl.out,List.take_length])
 have Hwd:=Lib.hid (show 2<=wd/\wd<=7 from⟨by
  obtain⟨k1,k2⟩:=Hm1.out
  rw[<-k2]
  exact sum_ge2 (Hok.out.n1 r1 k1).1 (H2.out r1 k1),hw7 (by have:=Hln.out;omega)⟩)
 obtain⟨cn,hcn⟩:∃n:Nat,wd=(n:Int)+1:=⟨(wd-1).toNat,by have:=Hwd.out;omega⟩
 subst hcn
 have Hcn:=Lib.hid (show 1<=cn/\cn<=6 by have:=Hwd.out;omega)
 have i1:¬((ln:Int)<(ln:Int)):=by omega
 clear hiq hC hk4 hkn h2x hw7 hlt hK Hwd
 by_cases hk10:(10:Int)<(kn:Int)
 case pos=>
  go_wp2_with fail
  refine(H5.out _).mono ?_
  rintro e we⟨rfl,hbe⟩
  have HBE:=Lib.hid (Below.later HC1.out.bel hbe)
  clear hbe
  go_wp2
  go_ret
  exact⟨rfl,HBE.out⟩
 case neg=>
 have Hch:=Lib.hid (λW(hpan:PanIn W (some ⟨b,o,none⟩) ln lc ls)(hby:Sl 1 encB W W.heap.size BA bn bc bs)=>chosen_ln _ ln lc ls BA bn bc bs W hpan hby Hbs.out (by have:=Hln.out;omega) (by have:=Hln.out;omega) (λr hr=>by have:=Hn5.out r hr;omega))
 have Hk:=Lib.hid (show kn<=10 by omega)
 go_wp2_with fail
 refine(Hch.out _ HC1.out.pan HC1.out.by_).mono ?_
 rintro e w3⟨OA,oc,out,ords,rfl,hb,hpo,hot,hol,hmap⟩
 have HC2:=Lib.hid (HC1.out.later hb)
 have HO2:=Lib.hid hpo
 have Hoo:=Lib.hid (ordsOk_of hot (by rw[hol,Hl.out]) hmap)
 have hsy:=seamy_of (cn:=cn) (λr hr=>(Hlen.out r hr).symm) H2.out (λr hr=>Hsum.out r hr) hot (by rw[hol,Hl.out]) hmap
 have hse:=λW(h1:PanIn W (some ⟨b,o,none⟩) ln lc ls)(h2:PanIn W OA ln oc ords)=>seams_ln (some ⟨b,o,none⟩) ln lc ls OA ln oc ords W h1 Hok.out h2 Hoo.out
 have hco:=λW(h1:PanIn W (some ⟨b,o,none⟩) ln lc ls)(h2:PanIn W OA ln oc ords)h3(h4:(meetP cn (seamsTo ls ords ls.length)).Nodup)h5=>Sm.CheckOrders_ok (some ⟨b,o,none⟩) ln lc ls OA ln oc ords (meetP cn (seamsTo ls ords ls.length)) W h1 Hok.out h2 Hoo.out h3 h4 h5
 have hssum:=(seams_sum ls ords).trans Hkn.out
 have hslen:=(seamsTo_len ls ords ls.length).trans Hl.out
 obtain⟨S,hS⟩:∃S,seamsTo ls ords ls.length=S:=⟨_,rfl⟩
 rw[hS]at hsy hse hssum hslen hco
 obtain⟨m,hm⟩:∃m,(meetP cn S).length=m:=⟨_,rfl⟩
 rw[hm]at hco
 have Hse:=Lib.hid hse
 have Hco:=Lib.hid (λW h1 h2=>hco W h1 h2 (seamy_small hsy (by have:=Hln.out;omega) Hcn.out.2) (meetP_nodup cn S) (meetP_is hsy))
 have hcalls:=sheet_calls hsy hslen (by have:=Hln.out;omega) (by have:=Hln.out;omega) Hcn.out.1 Hcn.out.2 hssum Hk.out hm
 obtain⟨n,hn⟩:∃n,fewS cn S=n:=⟨_,rfl⟩
 rw[hn]at hcalls
 have Hcalls:=Lib.hid hcalls.2
 have Hn:=Lib.hid hcalls.1
 have Hslen:=Lib.hid hslen
 clear hb HC1 c0 c1 hpo hot hol hmap hsy hse hco hssum hslen hS hm hcalls hn Hch hk10
 have c0:=HC2.out.b0.cell 0
 have c1:=HC2.out.b0.lt
 go_wp2_with fail
 refine(Hse.out _ HC2.out.pan HO2.out).mono ?_
 rintro e w4⟨SA,sc,L,rfl,hb,hpl,hmL⟩
 have HC3:=Lib.hid (HC2.out.later hb)
 have HO3:=Lib.hid (HO2.out.later hb)
 have HL3:=Lib.hid hpl
 have HmL:=Lib.hid hmL
 clear hb HC2 HO2 hpl hmL c0 c1
 have c0:=HC3.out.b0.cell 0
 have c1:=HC3.out.b0.lt
 go_wp2_with fail
 refine(Hco.out _ HC3.out.pan HO3.out).mono ?_
 rintro e w5⟨rfl,hb⟩
 have HC4:=Lib.hid (HC3.out.later hb)
 have HL4:=Lib.hid (HL3.out.later hb)
 clear hb HC3 HO3 HL3 c0 c1
 have c0:=HC4.out.b0.cell 0
 have c1:=HC4.out.b0.lt
 obtain⟨sb,so,rfl⟩:=panAddr HL4.out l0
 have HS0:=Lib.hid (show ShW w5 (w5.alloc (.cells #[.slice none 0 0,.int .i64 2] 24)) (.slice none 0 0) ((sheetR cn S).take 0)from⟨balloc (brefl w5) _,Blk.new w5 _ _,World.ownsRow_nil _ _ _ _⟩)
 go_wp2_with fail
 clear c0 c1
 refine lpn (λq a W=>a.defers=[]/\∃(i:Nat)(v:Value),i+q=ln/\ShW w5 W v ((sheetR cn S).take i)/\Fits (none::none::none::none::none::some (.int .i64 ((cn:Int)+1))::some (.int .i64 (kn:Nat))::none::none::none::some (.slice (some ⟨sb,so,none⟩) ln sc)::none::some (.int .i64 (m:Nat))::none::some (.pointer (some ⟨w5.heap.size,0,none⟩))::some (.int .i64 (i:Nat))::none::none::none::none::none::none::none::none::none::none::none::none::none::none::none::none::none::none::none::none::none::none::none::none::none::none::none::none::none::none::none::none::none::none::none::none::none::none::none::none::none::none::none::none::none::none::none::none::none::none::none::none::none::none::none::none::none::none::none::none::none::none::none::none::none::none::none::none::none::none::none::none::none::none::none::none::none::none::none::none::none::none::none::none::none::none::none::none::none::none::none::none::none::none::none::none::none::none::none::none::none::none::none::none::none::none::none::none::none::none::none::none::none::none::none::none::none::none::none::none::none::none::none::none::none::none::none::none::none::none::none::none::none::none::none::none::none::none::none::none::none::none::none::none::none::none::none::none::none::none::none::none::none::none::none::none::none::none::none::none::none::none::none::none::none::none::none::none::none::none::none::none::none::none::none::none::none::none::none::none::none::none::[]) a.tmps.toList) ln ?_ ?_
 ·refine⟨rfl,0,_,by omega,HS0.out,?_⟩
  repeat (first|exact ftL|refine ftN ?_|refine ftS ?_)
 clear HS0
 intro q a W hI K1 hK
 obtain⟨hds,i,v,hiq,hsh,hfit⟩:=hI
 obtain⟨f',hf'⟩:=ftA hfit
 rw[hds]at hf'
 subst hf'
 clear hfit hds
 simp only[fillP,Nat.reduceAdd]
 by_cases hlt:i<ln
 case pos=>
  obtain⟨r,hr⟩:∃r,L[i]? =some r:=⟨_,List.getElem?_eq_getElem (by
   have h1:=congrArg List.length HmL.out
   rw[List.length_map,Hslen.out]at h1
   omega)⟩
  have hSi:S[i]? =some r.xs:=by rw[<-HmL.out,List.getElem?_map,hr];rfl
  have i1:(i:Int)<(ln:Int):=by omega
  have i2:(0:Int)<=(i:Int):=by omega
  have i3:IntKind.i64.wrap ((i:Int)+1)=(i:Int)+1:=by have:=Hln.out;rw[IntKind.wrap_i64];omega
  have Hrow:=Lib.hid (λW'(hb:Below w5.heap.size w5 W')=>panAt (HL4.out.later hb) hr)
  have Hlong:=Lib.hid (λW hs(k:Nat)=>show Calls Tryz.prog 20 #[.slice r.A r.n r.c,.int .i64 ((k:Int)+1)] W (λe w'=>e=.returned (.bool (hasB r.xs k))/\Below W.heap.size W w')from Sm.HasLong_any r.A r.n r.c r.xs ((k:Int)+1) W hs)
  have hnext:(sheetR cn S).take (i+1)=(sheetR cn S).take i++[rowG (hasB r.xs) cn]:=by
   have h1:(sheetR cn S)[i]? =some (rowG (hasB r.xs) cn):=by unfold sheetR;rw[List.getElem?_map,hSi];rfl
   obtain⟨h2,h3⟩:=List.getElem?_eq_some_iff.1 h1
   rw[List.take_succ_eq_append_getElem h2,h3]
  have hrl:((sheetR cn S).take i).length=i:=by
   rw[List.length_take]
   unfold sheetR
   rw[List.length_map,Hslen.out]
   omega
  obtain⟨rs,hrs⟩:∃rs,(sheetR cn S).take i=rs:=⟨_,rfl⟩
  rw[hrs]at hsh hnext hrl
  have HSh:=Lib.hid hsh
  have Hnext:=Lib.hid hnext
  have Hi:=Lib.hid (show i+q=ln/\i<ln/\rs.length=i/\ln<=4 from⟨hiq,hlt,hrl,Hln.out.2.2.1⟩)
  have HK:=Lib.hid (@hK)
  obtain⟨W1,hW1⟩:∃W1,W=W1:=⟨_,rfl⟩
  subst hW1
  clear hr hSi hnext hrl hrs hsh hiq hK
  go_wp2_with fail
  refine lpn (λq2 a W'=>a.defers=[]/\∃k:Nat,k+q2=cn/\Below W.heap.size W W'/\Fits (none::none::none::none::none::some (.int .i64 ((cn:Int)+1))::some (.int .i64 (kn:Nat))::none::none::none::some (.slice (some ⟨sb,so,none⟩) ln sc)::none::some (.int .i64 (m:Nat))::none::some (.pointer (some ⟨w5.heap.size,0,none⟩))::some (.int .i64 (i:Nat))::some (.string (rowG (hasB r.xs) k))::some (.int .i64 ((k:Int)+1))::none::none::none::none::none::none::none::none::none::none::none::none::none::none::none::none::none::none::none::none::none::none::none::none::none::none::none::none::none::none::none::none::none::none::none::none::none::none::none::none::none::none::none::none::none::none::none::none::none::none::none::none::none::none::none::none::none::none::none::none::none::none::none::none::none::none::none::none::none::none::none::none::none::none::none::none::none::none::none::none::none::none::none::none::none::none::none::none::none::none::none::none::none::none::none::none::none::none::none::none::none::none::none::none::none::none::none::none::none::none::none::none::none::none::none::none::none::none::none::none::none::none::none::none::none::none::none::none::none::none::none::none::none::none::none::none::none::none::none::none::none::none::none::none::none::none::none::none::none::none::none::none::none::none::none::none::none::none::none::none::none::none::none::none::none::none::none::none::none::none::none::none::none::none::none::none::none::none::none::none::[]) a.tmps.toList) cn ?_ ?_
  ·refine⟨rfl,0,by omega,brefl W,?_⟩
   repeat (first|exact ftL|refine ftN ?_|refine ftS ?_)
  intro q2 a W2 hI2 K2 hK2
  obtain⟨hds,k,hkq,hB2,hfit⟩:=hI2
  obtain⟨f',hf'⟩:=ftA hfit
  rw[hds]at hf'
  subst hf'
  clear hfit hds
  simp only[fillP,Nat.reduceAdd]
  have HB2:=Lib.hid hB2
  by_cases hlk:k<cn
  case pos=>
   obtain⟨r0,rb,rsl⟩:=Hrow.out W2 (Below.later HSh.out.bel hB2)
   have HRs:=Lib.hid rsl
   have hrcap:=rsl.cap
   have k1:(k:Int)+1<(cn:Int)+1:=by omega
   have k2:(k:Int)<(cn:Int):=by omega
   have k3:IntKind.i64.wrap ((k:Int)+1+1)=(k:Int)+1+1:=by have:=Hcn.out;rw[IntKind.wrap_i64];omega
   have hsz:¬(9223372036854775807<(rowG (hasB r.xs) k).size+1):=by rw[rowG_size];have:=Hcn.out;omega
   have Hyes:=Lib.hid (@rowG_yes (hasB r.xs) k)
   have Hno:=Lib.hid (@rowG_no (hasB r.xs) k)
   have hlo:=λW hs=>Hlong.out W hs k
   obtain⟨ow,how⟩:∃x,hasB r.xs k=x:=⟨_,rfl⟩
   rw[how]at hlo
   have Hlo:=Lib.hid hlo
   have How:=Lib.hid how
   obtain⟨s1,hs1⟩:∃s,rowG (hasB r.xs) k=s:=⟨_,rfl⟩
   rw[hs1]at Hyes Hno hsz ⊢
   have Hkq:=Lib.hid (show k+q2=cn/\k<cn from⟨hkq,hlk⟩)
   have HK2:=Lib.hid (@hK2)
   clear hkq hB2 rsl hlo how hs1 hK2
   go_wp2_with fail
   refine(Hlo.out _ HRs.out).mono ?_
   rintro e w6⟨rfl,hb⟩
   have HB3:=Lib.hid (Below.later HB2.out hb)
   clear hb r0 rb HRs HB2
   cases ow with
   |true=>
    go_wp2_with fail
    obtain⟨j1,j2⟩:=Hkq.out
    rw[Hyes.out How.out]
    refine HK2.out _ _ (q2-1) (by omega) ⟨rfl,k+1,by omega,HB3.out,?_⟩
    repeat (first|exact ftL|refine ftN ?_|refine ftS ?_)
   |false=>
    go_wp2_with fail
    obtain⟨j1,j2⟩:=Hkq.out
    rw[Hno.out How.out]
    refine HK2.out _ _ (q2-1) (by omega) ⟨rfl,k+1,by omega,HB3.out,?_⟩
    repeat (first|exact ftL|refine ftN ?_|refine ftS ?_)
  case neg=>
  have hke:cn=k:=by omega
  subst hke
  obtain⟨s1,hs1⟩:∃s,rowG (hasB r.xs) cn=s:=⟨_,rfl⟩
  rw[hs1]at Hnext ⊢
  have k1:¬((cn:Int)+1<(cn:Int)+1):=by omega
  have HSh1:=Lib.hid (HSh.out.later hB2)
  have HSa:=Lib.hid (HSh1.out.later (balloc (brefl W2) (.cells #[.string s1] 9)))
  have HVs:=Lib.hid (show w5.heap.size<W2.heap.size from HSh1.out.b0.lt)
  have b0:=HSh1.out.b0.cell 0
  have b1:=HSh1.out.b0.lt
  have hne:v.ownBlock≠some w5.heap.size:=λe=>by
   have:=own_base HSh1.out.own _ e
   omega
  have Hne:=Lib.hid hne
  obtain⟨i0,hi0,hz0,hz1,hz2⟩:=info_parts info_str
  clear hs1 hkq hlk hK2 hB2 HB2 HSh hne
  go_wp2_with (at_builtin;refine wpList_append_own _ rfl _ _ 22 rfl (w5.heap.size+1) 9 i0 (.string ⟨#[]⟩) 1 16 und_strs hi0 hz0 hz1 hz2 rfl (by decide) v rs.length _ rfl HSa.out.own ⟨W2.heap.size,0,none⟩ 1 1 [.string s1] rfl rfl (one_new _ _ _) (by simp[Value.oneCell']) (by have:=Hi.out;simp only[maxLen];omega) (by have:=Hi.out;omega) (by have:=HVs.out;simp;omega) ?_;intro v' W3 hown' hgr _;have HS3:=Lib.hid (HSa.out.grown hgr hown');have hb3:=HSa.out.b0.grown hgr Hne.out;have hc3:=hb3.cell 0;have hf3:=hb3.frozen 0;have hz3:=hb3.lt;obtain⟨g3,c3,rfl⟩:=own_succ hown';clear hown' hgr hb3)
  obtain⟨j1,j2,j3,j4⟩:=Hi.out
  refine HK.out _ _ (q-1) (by omega) ⟨rfl,i+1,_,by omega,by rw[Hnext.out];exact HS3.out,?_⟩
  repeat (first|exact ftL|refine ftN ?_|refine ftS ?_)
 case neg=>
 have hie:ln=i:=by omega
 subst hie
 have hrl:(sheetR cn S).length=ln:=by unfold sheetR;rw[List.length_map,Hslen.out]
 have hta:(sheetR cn S).take ln=sheetR cn S:=by rw[<-hrl,List.take_length]
 rw[hta]at hsh
 obtain⟨A,c,rfl,hsl⟩:=hsh.sl hrl
 have HX0:=Lib.hid (show SX w5 W A ln c (sheetR cn S)from⟨hsh.bel,hsh.b0,hsl⟩)
 have e0:=hsh.b0.cell 0
 have e1:=hsh.b0.cell 1
 have e2:=hsh.b0.lt
 have Hbel:=Lib.hid HC4.out.bel
 clear hrl hta hsl hsh hlt hiq hK
 go_wp2_with fail
 refine(Hcalls.out A c _ HX0.out.sl).1.mono ?_
 rintro e w6⟨rfl,hb⟩
 have HX1:=Lib.hid (HX0.out.later hb)
 clear hb e0 e1 e2 HX0
 have e0:=HX1.out.b0.cell 0
 have e1:=HX1.out.b0.cell 1
 have e2:=HX1.out.b0.lt
 go_wp2_with fail
 refine(Hcalls.out A c _ HX1.out.sl).2.1.mono ?_
 rintro e w7⟨A7,c7,rfl,hb⟩
 have HX2:=Lib.hid (HX1.out.later hb)
 clear hb e0 e1 e2 HX1
 have e0:=HX2.out.b0.cell 0
 have e1:=HX2.out.b0.cell 1
 have e2:=HX2.out.b0.lt
 go_wp2_with fail
 refine(Hcalls.out A c _ HX2.out.sl).2.2.1.mono ?_
 rintro e w8⟨A8,c8,pl,rfl,hb,hpl⟩
 have HX3:=Lib.hid (HX2.out.later hb)
 have Hpl:=Lib.hid hpl
 clear hb hpl e0 e1 e2 HX2
 have e0:=HX3.out.b0.cell 0
 have e1:=HX3.out.b0.cell 1
 have e2:=HX3.out.b0.lt
 go_wp2_with fail
 refine(Hcalls.out A c _ HX3.out.sl).2.2.2.mono ?_
 rintro e w9⟨rfl,hb⟩
 have HX4:=Lib.hid (HX3.out.later hb)
 clear hb e0 e1 e2 HX3
 obtain⟨n2,hn2⟩:∃x,2*n=x:=⟨_,rfl⟩
 have f0:IntKind.i64.wrap ((kn:Int)-(m:Int))=(pl:Int):=by have:=Hpl.out;have:=Hk.out;rw[IntKind.wrap_i64];omega
 have f1:IntKind.i64.wrap (2*(n:Int))=(n2:Int):=by have:=Hn.out;have:=Hk.out;rw[IntKind.wrap_i64];omega
 have f2:(pl:Int)<=(n:Int):=by have:=Hn.out;have:=Hpl.out;omega
 have f3:(kn:Int)<=(n2:Int):=by have:=Hn.out;omega
 have f4:pl<=n:=by omega
 have f5:kn<=n2:=by omega
 clear hn2
 by_cases hm0:0<m
 case pos=>
  have g1:(0:Int)<(m:Int):=by omega
  go_wp2_with fail
  refine(H5.out _).mono ?_
  rintro e we⟨rfl,hbe⟩
  have HBE:=Lib.hid (Below.later Hbel.out (Below.later HX4.out.bel hbe))
  clear hbe
  go_wp2
  go_ret
  exact⟨rfl,HBE.out⟩
 case neg=>
  have g1:¬((0:Int)<(m:Int)):=by omega
  have hnk:n=kn:=by have:=Hn.out;omega
  subst hnk
  go_wp2_with fail
  refine(H5.out _).mono ?_
  rintro e we⟨rfl,hbe⟩
  have HBE:=Lib.hid (Below.later Hbel.out (Below.later HX4.out.bel hbe))
  clear hbe
  go_wp2
  go_ret
  exact⟨rfl,HBE.out⟩
end Go.Proofs.YtifehdoghfnhoaaGreatDoor.Pa
