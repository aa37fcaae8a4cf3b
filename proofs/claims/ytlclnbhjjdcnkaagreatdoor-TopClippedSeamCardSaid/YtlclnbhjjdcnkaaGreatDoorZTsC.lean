/- Seam: valid panels are valid, and are opened. -/
import Derived.Test.YtlclnbhjjdcnkaaGreatDoorZCOutA
import Derived.Test.YtlclnbhjjdcnkaaGreatDoorZCParted
import Derived.Test.YtlclnbhjjdcnkaaGreatDoorZSThree
import Derived.Test.YtlclnbhjjdcnkaaGreatDoorZSTwo
import Derived.Test.YtlclnbhjjdcnkaaGreatDoorZDagA
namespace Go.Proofs.YtlclnbhjjdcnkaaGreatDoor.C
open Go.RowKit
structure Strips(S:Nat->Nat->Prop)(at_:Nat)(st:List Int)(M:Nat->Int):Prop where
 sum:st.sum=at_
 pos:∀x∈st,1<=x
 inS:∀a b,S a b->a<b/\b<=at_
 bnd:∀j,j<=st.length->∀a b,S a b->¬((a:Int)<(st.take j).sum/\(st.take j).sum<b)
 cov:∀p:Nat,0<p->p<at_->(∃j,j<=st.length/\(st.take j).sum=p)\/(∃a b,S a b/\a<p/\p<b)\/(M (p-1)=1/\M p=1)
theorem strips_start:Strips (λ_ _=>False) 0 [] (λ_=>0):=⟨rfl,by simp,λa b h=>h.elim,λj hj a b h=>h.elim,λp h1 h2=>by omega⟩
def wasteTo(M:Nat->Int)(a b:Nat):Nat->Int:=λp=>if a<=p/\p<b then 1 else M p
theorem wasteTo_self(M:Nat->Int)(a:Nat):wasteTo M a a=M:=by
 funext p
 unfold wasteTo
 rw[if_neg (by omega)]
theorem wasteTo_succ(M:Nat->Int){a b:Nat}(h:a<=b):updN (wasteTo M a b) b 1=wasteTo M a (b+1):=by
 funext p
 unfold wasteTo updN
 by_cases e:p=b
 ·rw[if_pos e,if_pos (by omega)]
 ·rw[if_neg e]
  show(if a<=p/\p<b then 1 else M p)=_
  by_cases h2:a<=p/\p<b
  ·rw[if_pos h2,if_pos (by omega)]
  ·rw[if_neg h2,if_neg (by omega)]
theorem take_snoc_sum{st:List Int}{x:Int}{j:Nat}(hj:j<=st.length):((st++[x]).take j).sum=(st.take j).sum:=by rw[List.take_append_of_le_length hj]
theorem all_snoc_sum{st:List Int}{x:Int}{j:Nat}(hj:j=st.length+1):((st++[x]).take j).sum=st.sum+x:=by
 rw[List.take_of_length_le (by simp;omega)]
 simp
theorem take_le{st:List Int}(hp:∀x∈st,1<=x)(j:Nat):(st.take j).sum<=st.sum/\(j<st.length->(st.take j).sum<st.sum)/\0<=(st.take j).sum/\(0<j->0<st.length->0<(st.take j).sum):=by
 induction st generalizing j with
 |nil=>simp
 |cons x st ih=>
  have hx:=hp x (by simp)
  cases j with
  |zero=>
   have h0:=ih (λy hy=>hp y (by simp[hy])) 0
   simp only[List.take_zero,List.sum_nil,List.sum_cons,List.length_cons]at h0 ⊢
   omega
  |succ j=>
   have h0:=ih (λy hy=>hp y (by simp[hy])) j
   simp only[List.take_succ_cons,List.sum_cons,List.length_cons]
   omega
theorem Strips.waste{S:Nat->Nat->Prop}{a b:Nat}{st:List Int}{M:Nat->Int}(h:Strips S a st M)(hab:a<b):Strips S b (st++[(b:Int)-a]) (wasteTo M a b):=by
 have hs:=h.sum
 refine⟨by simp;omega,λx hx=>?_,λc d hc=>?_,λj hj c d hc=>?_,λp h1 h2=>?_⟩
 ·rcases List.mem_append.1 hx with hx|hx
  ·exact h.pos x hx
  ·simp at hx;omega
 ·have:=h.inS c d hc;omega
 ·have hd:=h.inS c d hc
  simp at hj
  rcases Nat.lt_or_ge j (st.length+1)with hj2|hj2
  ·rw[take_snoc_sum (by omega)]
   exact h.bnd j (by omega) c d hc
  ·rw[all_snoc_sum (by omega)]
   omega
 ·by_cases hpa:p<a
  ·rcases h.cov p h1 hpa with⟨j,hj,e⟩|hc|⟨m1,m2⟩
   ·exact .inl ⟨j,by simp;omega,by rw[take_snoc_sum hj,e]⟩
   ·exact .inr (.inl hc)
   ·refine .inr (.inr ⟨?_,?_⟩)
    ·unfold wasteTo;rw[if_neg (by omega)];exact m1
    ·unfold wasteTo;rw[if_neg (by omega)];exact m2
  ·by_cases e:p=a
   ·exact .inl ⟨st.length,by simp,by rw[take_snoc_sum (Nat.le_refl _),List.take_length];omega⟩
   ·refine .inr (.inr ⟨?_,?_⟩)
    ·unfold wasteTo;rw[if_pos (by omega)]
    ·unfold wasteTo;rw[if_pos (by omega)]
theorem Strips.sheet{S:Nat->Nat->Prop}{a b:Nat}{st:List Int}{M:Nat->Int}(h:Strips S a st M)(hab:a<b):Strips (λc d=>S c d\/(c=a/\d=b)) b (st++[(b:Int)-a]) M:=by
 have hs:=h.sum
 refine⟨by simp;omega,λx hx=>?_,λc d hc=>?_,λj hj c d hc=>?_,λp h1 h2=>?_⟩
 ·rcases List.mem_append.1 hx with hx|hx
  ·exact h.pos x hx
  ·simp at hx;omega
 ·rcases hc with hc|⟨rfl,rfl⟩
  ·have:=h.inS c d hc;omega
  ·omega
 ·simp at hj
  rcases Nat.lt_or_ge j (st.length+1)with hj2|hj2
  ·rw[take_snoc_sum (by omega)]
   rcases hc with hc|⟨rfl,rfl⟩
   ·exact h.bnd j (by omega) c d hc
   ·have:=(take_le h.pos j).1
    omega
  ·rw[all_snoc_sum (by omega)]
   rcases hc with hc|⟨rfl,rfl⟩
   ·have:=h.inS c d hc
    omega
   ·omega
 ·by_cases hpa:p<a
  ·rcases h.cov p h1 hpa with⟨j,hj,e⟩|⟨c,d,hc⟩|hm
   ·exact .inl ⟨j,by simp;omega,by rw[take_snoc_sum hj,e]⟩
   ·exact .inr (.inl ⟨c,d,.inl hc.1,hc.2⟩)
   ·exact .inr (.inr hm)
  ·by_cases e:p=a
   ·exact .inl ⟨st.length,by simp,by rw[take_snoc_sum (Nat.le_refl _),List.take_length];omega⟩
   ·exact .inr (.inl ⟨a,b,.inr ⟨rfl,rfl⟩,by omega,by omega⟩)
def seamsF(st:List Int):List Int:=(List.range (st.length-1)).map λj=>(st.take (j+1)).sum
theorem seam_iff{S:Nat->Nat->Prop}{L:Nat}{st:List Int}{M:Nat->Int}(h:Strips S L st M){p:Nat}(h1:0<p)(h2:p<L):(seamsF st).any (λx=>x==(p:Int))=true↔∃j,j<=st.length/\(st.take j).sum=p:=by
 unfold seamsF
 rw[List.any_map,List.any_eq_true]
 have hs:=h.sum
 constructor
 ·rintro⟨j,hj,e⟩
  have hj:=List.mem_range.1 hj
  exact⟨j+1,by omega,by simpa using e⟩
 ·rintro⟨j,hj,e⟩
  have hj0:j≠0:=λe0=>by subst e0;simp at e;omega
  have hjl:j≠st.length:=λe0=>by subst e0;rw[List.take_length]at e;omega
  refine⟨j-1,List.mem_range.2 (by omega),?_⟩
  show(((st.take (j-1+1)).sum==(p:Int))=true)
  rw[show j-1+1=j by omega,e]
  simp
section
variable{L:Nat}{F:Nat->Int}{ks:List Kd}
theorem GoodL.split(hk:KOk ks){i:Nat}{l:List Sh}(h:GoodL L F ks i l):∀p,i<=p->p<=L->(∀s∈l,¬(s.f<(p:Int)/\(p:Int)<s.f+(ks.getD s.k.toNat ⟨0,0,0⟩).w))->∃u v,Way L F ks i p u/\Way L F ks p L v/\u+v=valL ks l:=by
 induction h with
 |nil i hi=>intro p h1 h2 _;exact⟨0,0,way_waste h1 h2 (.nil p),way_waste h2 (Nat.le_refl _) (.nil L),rfl⟩
 |cons i f k x l hi hx hc hr ih=>
  intro p h1 h2 hn
  have hle:=(canB_iff.1 hc).1
  have hbd:=hk.bd hx
  have hgd:ks.getD k ⟨0,0,0⟩=x:=by simp[List.getD,hx]
  have e:valL ks (⟨f,k⟩::l)=x.p+valL ks l:=by
   unfold valL
   simp only[List.map_cons,List.sum_cons,Int.toNat_natCast,hgd]
  by_cases hp:f+x.w.toNat<=p
  ·obtain⟨u,v,w1,w2,w3⟩:=ih p hp h2 (λs hs=>hn s (List.mem_cons_of_mem _ hs))
   refine⟨x.p+u,v,way_waste hi (by omega) (.sheet f p k x u hx hc w1),w2,by rw[e];omega⟩
  ·have h3:=hn ⟨f,k⟩ (List.mem_cons_self ..)
   simp only[Int.toNat_natCast,hgd]at h3
   have hpf:p<=f:=by omega
   exact⟨0,_,way_waste h1 h2 (.nil p),(GoodL.cons (ks:=ks) p f k x l hpf hx hc hr).way hk,by omega⟩
theorem GoodL.at_(hk:KOk ks){i:Nat}{l:List Sh}(h:GoodL L F ks i l):∀s∈l,∃(f k:Nat)(x:Kd)(u v:Int),s=⟨f,k⟩/\ks[k]? =some x/\canB L F x f=true/\Way L F ks i f u/\Way L F ks (f+x.w.toNat) L v/\u+x.p+v=valL ks l:=by
 induction h with
 |nil i hi=>intro s hs;cases hs
 |cons i f k x l hi hx hc hr ih=>
  intro s hs
  have hle:=(canB_iff.1 hc).1
  have hbd:=hk.bd hx
  have hgd:ks.getD k ⟨0,0,0⟩=x:=by simp[List.getD,hx]
  have e:valL ks (⟨f,k⟩::l)=x.p+valL ks l:=by
   unfold valL
   simp only[List.map_cons,List.sum_cons,Int.toNat_natCast,hgd]
  rcases List.mem_cons.1 hs with rfl|hs
  ·exact⟨f,k,x,0,valL ks l,rfl,hx,hc,way_waste hi (by omega) (.nil f),hr.way hk,by rw[e];omega⟩
  ·obtain⟨f',k',x',u,v,e1,e2,e3,w1,w2,w3⟩:=ih s hs
   exact⟨f',k',x',x.p+u,v,e1,e2,e3,way_waste hi (by omega) (.sheet f f' k x u hx hc w1),w2,by rw[e];omega⟩
theorem parted_cuts(hk:KOk ks){A Bh:Nat->Int}(hA:UpTo L F ks A)(hB:From L F ks Bh){l:List Sh}(hl:GoodL L F ks 0 l)(hv:valL ks l=Bh 0){p:Nat}(hp:p<=L):
 (partedP L F ks A Bh p).2=0/\((∀s∈l,¬(s.f<(p:Int)/\(p:Int)<s.f+(ks.getD s.k.toNat ⟨0,0,0⟩).w))->(partedP L F ks A Bh p).1≠0)/\((∃s∈l,s.f<(p:Int)/\(p:Int)<s.f+(ks.getD s.k.toNat ⟨0,0,0⟩).w)->(partedP L F ks A Bh p).1≠2):=by
 have hin:inR 0 (L:Int) (p:Int)=true:=(inR_iff _ _ _).2 ⟨by omega,by omega⟩
 have h0:A 0=0:=hA.zero
 have hAL:A L<=Bh 0:=by
  have:=hB.le (hA.way L (Nat.le_refl _))
  have:=hB.zero
  omega
 unfold partedP
 rw[if_neg (by rw[hin];simp),Int.toNat_natCast]
 refine⟨?_,λhn=>?_,λ⟨s,hs,h1,h2⟩=>?_⟩
 ·split
  ·rfl
  ·split<;>rfl
 ·obtain⟨u,v,w1,w2,w3⟩:=hl.split hk p (Nat.zero_le _) hp hn
  have e1:=hA.le w1
  have e2:=hB.le w2
  have:=hB.zero
  rw[if_neg (by omega)]
  split<;>simp
 ·obtain⟨f,k,x,u,v,rfl,hx,hc,w1,w2,w3⟩:=hl.at_ hk s hs
  have hle:=(canB_iff.1 hc).1
  have hbd:=hk.bd hx
  have hgd:ks.getD k ⟨0,0,0⟩=x:=by simp[List.getD,hx]
  simp only[Int.toNat_natCast,hgd]at h1 h2
  have hcr:crossB L F ks A Bh p=true:=by
   refine cross_iff.2 ⟨f,k,⟨by omega,by unfold canI;rw[hx];exact hc,?_⟩,?_⟩
   ·unfold wtK
    rw[hgd]
    have e1:=hA.le w1
    have e2:=hB.le w2
    have:=hB.zero
    omega
   ·unfold overB
    rw[hgd]
    simp
    omega
  rw[hcr]
  split<;>simp
end
end Go.Proofs.YtlclnbhjjdcnkaaGreatDoor.C
namespace Go.Proofs.YtlclnbhjjdcnkaaGreatDoor.Sm
open Go.RowKit Go.Shelf
set_option maxHeartbeats 400000 in
theorem withinC(B1 B2:Nat)(lo hi x:Int)(w:World)(h1:w.cell? ⟨B1,0,none⟩=some (.int .i64 lo))(h2:w.cell? ⟨B2,0,none⟩=some (.int .i64 hi)):
 Calls Tryz.prog 229 #[.int .i64 x,.pointer (some ⟨B1,0,none⟩),.pointer (some ⟨B2,0,none⟩)] w λe w'=>e=.returned (.bool (outR lo hi x))/\Below w.heap.size w w':=by
 have H:=Lib.hid (outR_eq lo hi x)
 by_cases c1:x<lo
 ·go_enter Tryz.func229,Tryz.ntmps229
  go_wp2
  go_ret
  exact⟨ret_bool (by rw[H.out];simp[outB,c1]),Below.refl _ _⟩
 ·by_cases c2:hi<x
  ·go_enter Tryz.func229,Tryz.ntmps229
   go_wp2
   go_ret
   exact⟨ret_bool (by rw[H.out];simp[outB,c2]),Below.refl _ _⟩
  ·go_enter Tryz.func229,Tryz.ntmps229
   go_wp2
   go_ret
   exact⟨ret_bool (by rw[H.out];simp[outB,c1,c2]),Below.refl _ _⟩
set_option maxHeartbeats 400000 in
theorem within_any(lo hi:Int)(A:Option Addr)(n c:Nat)(xs:List Int)(w:World)(hs:Sl 1 encI w w.heap.size A n c xs):
 Calls Tryz.prog 120 #[.int .i64 lo,.int .i64 hi,.slice A n c] w λe w'=>e=.returned (.bool (!(xs.any (outR lo hi))))/\Below w.heap.size w w':=by
 have Hs:=Lib.hid hs
 clear hs
 go_enter Tryz.func120,Tryz.ntmps120
 go_wp2_with (go_at_call 228;refine(containsL 229 #[.pointer (some ⟨w.heap.size,0,none⟩),.pointer (some ⟨w.heap.size+1,0,none⟩)] (enters_of Tryz.func229 (by kernel_rfl) rfl) (outR lo hi) A n c xs _ (Hs.out.later ?_) ?_).mono ?_)
 ·exact((Below.refl _ _).alloc (Nat.le_refl _) _).alloc (by simp) _
 ·intro x W _ hb
  exact withinC _ _ lo hi x W ((hb.cell (p:=⟨w.heap.size,0,none⟩) (by simp;omega)).trans (by go_simp)) ((hb.cell (p:=⟨w.heap.size+1,0,none⟩) (by simp)).trans (by go_simp))
 ·rintro e w1⟨rfl,hb1⟩
  have Hb1:=Lib.hid hb1
  clear hb1
  go_wp2
  go_ret
  exact⟨rfl,Below.later (((Below.refl _ _).alloc (Nat.le_refl _) _).alloc (by simp) _) Hb1.out⟩
theorem within_one(lo hi x:Int)(b:Nat)(w:World)(hb:b<w.heap.size)(h:w.cell? ⟨b,0,none⟩=some (.int .i64 x)):
 Calls Tryz.prog 120 #[.int .i64 lo,.int .i64 hi,.slice (some ⟨b,0,none⟩) 1 1] w λe w'=>e=.returned (.bool (inR lo hi x))/\Below w.heap.size w w':=
 (within_any lo hi _ _ _ [x] w (Sl.one hb h)).mono λ_ _⟨he,hw⟩=>⟨by rw[he,inR_any],hw⟩
structure Lw where
 A:Option Addr
 n:Nat
 c:Nat
 xs:List Int
def encLw(r:Lw):List Value:=[.slice r.A r.n r.c]
structure PanIn(W:World)(LA:Option Addr)(ln lc:Nat)(ls:List Lw):Prop where
 sl:Sl 1 encLw W W.heap.size LA ln lc ls
 rows:∀r∈ls,Sl 1 encI W W.heap.size r.A r.n r.c r.xs
theorem PanIn.later{W W':World}{LA:Option Addr}{ln lc:Nat}{ls:List Lw}(h:PanIn W LA ln lc ls)(hb:Below W.heap.size W W'):PanIn W' LA ln lc ls:=⟨h.sl.later hb,λr hr=>(h.rows r hr).later hb⟩
theorem ltLw{W:World}{B:Nat}{A:Option Addr}{n c:Nat}{xs:List Lw}(h:Sl 1 encLw W B A n c xs){i:Nat}(hi:i<n):∃b o r,A=some ⟨b,o,none⟩/\b<B/\xs[i]? =some r/\W.cell? ⟨b,o+i,none⟩=some (.slice r.A r.n r.c):=by
 obtain⟨b,o,r,hA,hB,hx,hc⟩:=h.lt hi
 exact⟨b,o,r,hA,hB,hx,by simpa using hc 0 _ rfl⟩
structure PanOk(ls:List Lw):Prop where
 l2:2<=ls.length
 l4:ls.length<=4
 n1:∀r∈ls,1<=r.xs.length/\r.xs.length<=5
 x1:∀r∈ls,∀x∈r.xs,1<=x/\x<=100
 sum:∀r∈ls,∀r'∈ls,r.xs.sum=r'.xs.sum
set_option maxRecDepth 100000 in
set_option maxHeartbeats 1000000 in
theorem sum_any(A:Option Addr)(n c:Nat)(xs:List Int)(w:World)(hs:Sl 1 encI w w.heap.size A n c xs)(hn:n<=1000)(hx:∀x∈xs,0<=x/\x<=1000):
 Calls Tryz.prog 101 #[.slice A n c] w λe w'=>e=.returned (.int .i64 xs.sum)/\Below w.heap.size w w':=by
 have hl:=hs.len
 have hsum:∀j,j<=xs.length->0<=(xs.take j).sum/\(xs.take j).sum<=1000*j:=by
  intro j
  induction j with
  |zero=>intro _;simp
  |succ j ih=>
   intro hj
   have h1:=ih (by omega)
   have hin:j<xs.length:=by omega
   have h2:=hx _ (List.getElem_mem hin)
   rw[List.take_succ_eq_append_getElem hin,List.sum_append]
   simp
   omega
 have Hs:=Lib.hid hs
 have Hx:=Lib.hid hx
 have Hsum:=Lib.hid hsum
 have Hl:=Lib.hid hl
 clear hs hx hsum hl
 go_enter Tryz.func101,Tryz.ntmps101
 go_wp2_with fail
 refine loop_n (λq a W=>a.defers=[]/\∃i:Nat,i+q=n/\Below w.heap.size w W/\Fits (none::none::none::some (.int .i64 (xs.take i).sum)::none::none::some (.slice A n c)::some (.int .i64 (n:Nat))::some (.int .i64 (i:Nat))::none::none::none::none::none::none::none::none::[]) a.tmps.toList) n ?_ ?_
 ·refine⟨rfl,0,by omega,brefl w,?_⟩
  repeat (first|exact fits_nil|refine fits_none ?_|refine fits_some ?_)
 intro q a W hI K1 hK
 obtain⟨hds,i,hiq,hB,hfit⟩:=hI
 obtain⟨f',hf'⟩:=fits_act hfit
 rw[hds]at hf'
 subst hf'
 clear hfit hds
 simp only[fillP,Nat.reduceAdd]
 have HB:=Lib.hid hB
 by_cases hlt:i<n
 ·obtain⟨b,o,x,rfl,hbb,hx,x0⟩:=(Hs.out.later hB).ltI hlt
  have h1:=Hsum.out i (by have:=Hl.out;omega)
  have h2:=Hx.out x (List.mem_of_getElem? hx)
  obtain⟨s,hs⟩:∃s,(xs.take i).sum=s:=⟨_,rfl⟩
  obtain⟨s',hs'⟩:∃s',(xs.take (i+1)).sum=s':=⟨_,rfl⟩
  have hst:s+x=s':=by
   obtain⟨hin,hxe⟩:=List.getElem?_eq_some_iff.1 hx
   rw[<-hs,<-hs',List.take_succ_eq_append_getElem hin,List.sum_append,hxe]
   simp
  rw[hs]at h1 ⊢
  have i1:(i:Int)<(n:Int):=by omega
  have i2:(0:Int)<=(i:Int):=by omega
  have i3:IntKind.i64.wrap ((i:Int)+1)=(i:Int)+1:=by rw[IntKind.wrap_i64];omega
  have i4:IntKind.i64.wrap (s+x)=s':=by rw[IntKind.wrap_i64];omega
  have Hs':=Lib.hid hs'
  clear h1 h2 hs hst hx hs' hB
  go_wp2
  rw[<-Hs'.out]
  refine hK _ _ (q-1) (by omega) ⟨rfl,i+1,by omega,HB.out,?_⟩
  repeat (first|exact fits_nil|refine fits_none ?_|refine fits_some ?_)
 ·obtain rfl:i=n:=by omega
  have H3:=Lib.hid (show(xs.take i).sum=xs.sum by rw[<-Hl.out,List.take_length])
  obtain⟨s,hs⟩:∃s,(xs.take i).sum=s:=⟨_,rfl⟩
  rw[hs]at H3 ⊢
  clear hK hlt hiq hB hs
  go_wp2
  go_ret
  exact⟨ret_int H3.out,HB.out⟩
set_option maxHeartbeats 400000 in
theorem indexW(g:Nat)(lb:Array Value)(eg:∀args w,(callFunc g args).run Tryz.prog w=.ok (.enter g args) w)(p:Lw->Bool)(A:Option Addr)(n c:Nat)(xs:List Lw)(w:World)
 (hs:Sl 1 encLw w w.heap.size A n c xs)
 (hp:∀x W,x∈xs->Below w.heap.size w W->Calls Tryz.prog g (#[.slice x.A x.n x.c]++lb) W λe W'=>e=.returned (.bool (p x))/\Below W.heap.size W W'):
 Calls Tryz.prog 307 #[.slice A n c,.func (.func g) #[] lb] w λe w'=>e=.returned (.int .i64 (idxB p xs 0))/\Below w.heap.size w w':=by
 have hl:=hs.len
 have hcap:=hs.cap
 have hbig:=hs.big
 have Hp:=Lib.hid hp
 clear hp
 go_enter Tryz.func307,Tryz.ntmps307
 go_wp2
 go_loopw [8] (λi wr=>∃k:Nat,k<=n/\i=.int .i64 k/\(∀j x,j<k->xs[j]? =some x->p x=false)/\Below w.heap.size w wr) (λi _=>n-(intOf i).toNat)
 case atStart=>exact⟨0,by omega,rfl,by omega,Below.refl _ _⟩
 case round=>
  obtain⟨k,hk,rfl,hno,hb⟩:=hrel
  by_cases hlt:k<n
  ·obtain⟨b,o,x,rfl,hB,hx,hc0⟩:=ltLw (hs.below hb) hlt
   have Hno:=Lib.hid hno
   have Hx:=Lib.hid hx
   have Hb:=Lib.hid hb
   clear hno hx hb
   go_wp2_with (go_at_fn g;refine(Hp.out x _ (List.mem_of_getElem? Hx.out) Hb.out).mono ?_;rintro e w1 ⟨rfl,hb1⟩)
   ·have hpx:p x=true:=by assumption
    go_ret
    exact⟨ret_int (idxB_at Hno.out Hx.out hpx).symm,Below.later Hb.out hb1⟩
   ·have hpx:p x=false:=by assumption
    go_roundw
    case rel=>exact⟨k+1,by omega,by go_num,no_succ Hno.out Hx.out hpx,Below.later Hb.out hb1⟩
    case measure=>simp[intOf];omega
  ·obtain rfl:k=n:=by omega
   have Hno:=Lib.hid hno
   have Hb:=Lib.hid hb
   clear hno hb
   go_wp2
   go_ret
   exact⟨ret_int (idxB_no (by rw[hl];exact Hno.out)).symm,Hb.out⟩
set_option maxHeartbeats 400000 in
theorem containsW(g:Nat)(lb:Array Value)(eg:∀args w,(callFunc g args).run Tryz.prog w=.ok (.enter g args) w)(p:Lw->Bool)(A:Option Addr)(n c:Nat)(xs:List Lw)(w:World)
 (hs:Sl 1 encLw w w.heap.size A n c xs)
 (hp:∀x W,x∈xs->Below w.heap.size w W->Calls Tryz.prog g (#[.slice x.A x.n x.c]++lb) W λe W'=>e=.returned (.bool (p x))/\Below W.heap.size W W'):
 Calls Tryz.prog 226 #[.slice A n c,.func (.func g) #[] lb] w λe w'=>e=.returned (.bool (xs.any p))/\Below w.heap.size w w':=by
 have H:=Lib.hid (indexW g lb eg p A n c xs w hs hp)
 clear hs hp
 go_enter Tryz.func226,Tryz.ntmps226
 go_wp2_with (go_at_call 307;refine H.out.mono ?_;rintro e w1 ⟨rfl,hb1⟩)
 go_ret
 exact⟨ret_bool (idxB_ge p xs 0),hb1⟩
set_option maxHeartbeats 1000000 in
theorem size_ok(r:Lw)(w:World)(h1:1<=r.n/\r.n<=5):Calls Tryz.prog 224 #[.slice r.A r.n r.c] w λe w'=>e=.returned (.bool false)/\Below w.heap.size w w':=by
 have hb:=balloc (brefl w) (.cells #[.int .i64 (r.n:Nat)] 2)
 have Hb:=Lib.hid hb
 have Hc:=Lib.hid (within_one 1 5 (r.n:Int) w.heap.size _ (by simp) (show(w.alloc (.cells #[.int .i64 (r.n:Nat)] 2)).cell? ⟨w.heap.size,0,none⟩=some (.int .i64 (r.n:Int))from(Blk.new w 2 #[.int .i64 (r.n:Nat)]).cell 0))
 have hi:inR 1 5 (r.n:Int)=true:=(inR_iff _ _ _).2 (by omega)
 rw[hi]at Hc
 clear hb hi h1
 go_enter Tryz.func224,Tryz.ntmps224
 go_wp2_with fail
 refine Hc.out.mono ?_
 rintro e w1⟨rfl,hb1⟩
 have HB:=Lib.hid (Below.later Hb.out hb1)
 clear hb1
 go_wp2
 go_ret
 exact⟨rfl,HB.out⟩
set_option maxHeartbeats 1000000 in
theorem stray_ok(r:Lw)(w:World)(hs:Sl 1 encI w w.heap.size r.A r.n r.c r.xs)(h1:∀x∈r.xs,1<=x/\x<=100):Calls Tryz.prog 225 #[.slice r.A r.n r.c] w λe w'=>e=.returned (.bool false)/\Below w.heap.size w w':=by
 have Hc:=Lib.hid (within_any 1 100 r.A r.n r.c r.xs w hs)
 have hi:r.xs.any (outR 1 100)=false:=by
  rw[List.any_eq_false]
  intro x hx
  have:=h1 x hx
  rw[outR_eq]
  simp[outB]
  omega
 rw[hi]at Hc
 clear hs hi h1
 go_enter Tryz.func225,Tryz.ntmps225
 go_wp2_with fail
 refine Hc.out.mono ?_
 rintro e w1⟨rfl,hb1⟩
 have HB:=Lib.hid hb1
 clear hb1
 go_wp2
 go_ret
 exact⟨rfl,HB.out⟩
end Go.Proofs.YtlclnbhjjdcnkaaGreatDoor.Sm
namespace Go.Proofs.YtlclnbhjjdcnkaaGreatDoor.Sm
open Go.RowKit Go.Shelf
set_option maxRecDepth 100000 in
set_option maxHeartbeats 2000000 in
theorem equal_ok(r r0:Lw)(B:Nat)(LA:Option Addr)(ln lc:Nat)(ls:List Lw)(w:World)(hp:PanIn w LA ln lc ls)(hB:B<w.heap.size)(hc:w.cell? ⟨B,0,none⟩=some (.slice LA ln lc))(hr:r∈ls)(hr0:ls[0]? =some r0) (hok:PanOk ls):
 Calls Tryz.prog 227 #[.slice r.A r.n r.c,.pointer (some ⟨B,0,none⟩)] w λe w'=>e=.returned (.bool false)/\Below w.heap.size w w':=by
 have hl:=hp.sl.len
 have h2:=hok.l2
 obtain⟨b,o,r',rfl,hb,hx,x0⟩:=ltLw hp.sl (show 0<ln by omega)
 rw[hr0]at hx
 cases hx
 rw[Nat.add_zero]at x0
 have hlen:∀r∈ls,r.n<=1000:=λr hr=>by have:=(hp.rows r hr).len;have:=(hok.n1 r hr).2;omega
 have hbd:∀r∈ls,∀x∈r.xs,0<=x/\x<=1000:=λr hr x hx=>by have:=hok.x1 r hr x hx;omega
 have hm0:=List.mem_of_getElem? hr0
 have d4:0<ln:=by omega
 have H1:=Lib.hid (λV(h:Below w.heap.size w V)=>sum_any r.A r.n r.c r.xs V ((hp.rows r hr).later h) (hlen r hr) (hbd r hr))
 have H2:=Lib.hid (λV(h:Below w.heap.size w V)=>sum_any r0.A r0.n r0.c r0.xs V ((hp.rows r0 hm0).later h) (hlen r0 hm0) (hbd r0 hm0))
 obtain⟨s,hs⟩:∃s,r0.xs.sum=s:=⟨_,rfl⟩
 have hs1:r.xs.sum=s:=by rw[hok.sum r hr r0 hm0,hs]
 rw[hs1]at H1
 rw[hs]at H2
 clear hs hs1 hlen hbd hl h2 hp hok hr hr0
 go_enter Tryz.func227,Tryz.ntmps227
 go_wp2_with fail
 refine dag 9 (by kernel_rfl) (by kernel_rfl) (.is ?_::.is ?_::.is ?_::.is ?_::.is ?_::.is ?_::.is ?_::.is ?_::.is ?_::[]) rfl ?sta ?oba
 case sta=>simp[Spec.ok]
 case oba=>
 intro env V hG
 have hWV:Below w.heap.size w V:=Below.later (brefl w) hG
 have d0:V.cell? ⟨B,0,none⟩=some (.slice (some ⟨b,o,none⟩) ln lc):=(hWV.cell (p:=⟨B,0,none⟩) hB).trans hc
 have d1:B<V.heap.size:=Nat.lt_of_lt_of_le hB hWV.size
 have d2:V.cell? ⟨b,o,none⟩=some (.slice r0.A r0.n r0.c):=(hWV.cell (p:=⟨b,o,none⟩) hb).trans x0
 have d3:b<V.heap.size:=Nat.lt_of_lt_of_le hb hWV.size
 have HB:=Lib.hid hWV
 clear hWV hG
 (refine obls_is ?_ ?_;unfold doesAt;go_simp;(try go_bits);(first|(refine⟨brefl _,?_⟩;rfl)|rfl);intro K hK;go_simp;refine hK _ ?_;clear hK K)
 refine obls_is ?_ ?_
 ·unfold doesAt
  go_simp
  refine(H1.out V HB.out).mono ?_
  rintro e w1⟨rfl,hb1⟩
  (refine⟨?_,hb1⟩;rfl)
 intro K hK
 go_simp
 refine hK _ ?_
 clear hK K
 iterate 4 (refine obls_is ?_ ?_;unfold doesAt;go_simp;(try go_bits);(first|(refine⟨brefl _,?_⟩;rfl)|rfl);intro K hK;go_simp;refine hK _ ?_;clear hK K)
 refine obls_is ?_ ?_
 ·unfold doesAt
  go_simp
  refine(H2.out V HB.out).mono ?_
  rintro e w1⟨rfl,hb1⟩
  (refine⟨?_,hb1⟩;rfl)
 intro K hK
 go_simp
 refine hK _ ?_
 clear hK K
 iterate 2 (refine obls_is ?_ ?_;unfold doesAt;go_simp;(try go_bits);(first|(refine⟨brefl _,?_⟩;rfl)|rfl);intro K hK;go_simp;refine hK _ ?_;clear hK K)
 refine obls_nil (λhx=>?_)
 clear hx d0 d1 d2 d3 d4
 go_wp2
 go_ret
 exact⟨rfl,HB.out⟩
structure PB(w W:World)(LA:Option Addr)(ln lc:Nat)(ls:List Lw):Prop where
 bel:Below w.heap.size w W
 b0:Blk W w.heap.size 44 #[.slice LA ln lc]
 pan:PanIn W LA ln lc ls
theorem PB.later{w W W':World}{LA:Option Addr}{ln lc:Nat}{ls:List Lw}(h:PB w W LA ln lc ls)(hb:Below W.heap.size W W'):PB w W' LA ln lc ls:=⟨Below.later h.bel hb,h.b0.later hb,h.pan.later hb⟩
theorem PB.cells{w W:World}{LA:Option Addr}{ln lc:Nat}{ls:List Lw}(h:PB w W LA ln lc ls):W.cell? ⟨w.heap.size,0,none⟩=some (.slice LA ln lc)/\w.heap.size<W.heap.size/\True:=⟨h.b0.cell 0,h.b0.lt,trivial⟩
theorem PB.start{w:World}{LA:Option Addr}{ln lc:Nat}{ls:List Lw}(h:PanIn w LA ln lc ls):PB w (w.alloc (.cells #[.slice LA ln lc] 44)) LA ln lc ls:=⟨balloc (brefl w) _,Blk.new w _ _,h.later (balloc (brefl w) _)⟩
set_option maxRecDepth 100000 in
set_option maxHeartbeats 4000000 in
theorem checkPanel_ok(LA:Option Addr)(ln lc:Nat)(ls:List Lw)(w:World)(hp:PanIn w LA ln lc ls)(hok:PanOk ls):
 Calls Tryz.prog 119 #[.agg #[.slice LA ln lc]] w λe w'=>e=.returned (.int .i64 0)/\Below w.heap.size w w':=by
 have hl:=hp.sl.len
 have h2:=hok.l2
 have h4:=hok.l4
 have HK0:=Lib.hid (PB.start hp)
 have hin:inR 2 4 (ln:Int)=true:=(inR_iff _ _ _).2 (by omega)
 have Hw:=Lib.hid (λ(V:World)(h:PB w V LA ln lc ls)=>(within_one 2 4 (ln:Int) V.heap.size (V.alloc (.cells #[.int .i64 (ln:Nat)] 2)) (by simp) ((Blk.new V 2 #[.int .i64 (ln:Nat)]).cell 0)).mono λe w' he=>he)
 rw[hin]at Hw
 have hfal:∀l:List Lw,l.any (λ_=>false)=false:=λl=>by induction l<;>simp_all
 have H1:=Lib.hid (λ(V:World)(h:PB w V LA ln lc ls)=>containsW 224 #[] (enters_of Tryz.func224 (by kernel_rfl) rfl) (λ_=>false) LA ln lc ls V h.pan.sl (λx W hx hb=>size_ok x W (by have:=(h.pan.rows x hx).len;have:=hok.n1 x hx;omega)))
 have H2:=Lib.hid (λ(V:World)(h:PB w V LA ln lc ls)=>containsW 225 #[] (enters_of Tryz.func225 (by kernel_rfl) rfl) (λ_=>false) LA ln lc ls V h.pan.sl (λx W hx hb=>stray_ok x W ((h.pan.rows x hx).later hb) (hok.x1 x hx)))
 have H3:=Lib.hid (λ(V:World)(h:PB w V LA ln lc ls)=>containsW 227 #[.pointer (some ⟨w.heap.size,0,none⟩)] (enters_of Tryz.func227 (by kernel_rfl) rfl) (λ_=>false) LA ln lc ls V h.pan.sl (λx W hx hb=>equal_ok x ls[0] w.heap.size LA ln lc ls W (h.pan.later hb) (Nat.lt_of_lt_of_le h.b0.lt hb.size) ((h.b0.later hb).cell 0) hx (List.getElem?_eq_getElem (by omega)) hok))
 simp only[hfal]at H1 H2 H3
 clear hp hok hl h2 h4 hin hfal
 obtain⟨c0,c1,c2⟩:=HK0.out.cells
 go_enter Tryz.func119,Tryz.ntmps119
 go_wp2_with fail
 have hw0:=Hw.out _ HK0.out
 rw[World.size_alloc]at hw0
 refine hw0.mono ?_
 rintro e w1⟨rfl,hb⟩
 clear hw0
 have hbb:=Below.later (balloc (brefl _) (.cells #[.int .i64 (ln:Nat)] 2)) hb
 have HK1:=Lib.hid (HK0.out.later (hbb))
 clear HK0 c0 c1 c2
 obtain⟨c0,c1,c2⟩:=HK1.out.cells
 clear hb hbb Hw
 go_wp2_with fail
 refine(H1.out _ HK1.out).mono ?_
 rintro e w1⟨rfl,hb⟩
 have HK2:=Lib.hid (HK1.out.later hb)
 clear hb HK1 c0 c1 c2
 obtain⟨c0,c1,c2⟩:=HK2.out.cells
 go_wp2_with fail
 refine(H2.out _ HK2.out).mono ?_
 rintro e w2⟨rfl,hb⟩
 have HK3:=Lib.hid (HK2.out.later hb)
 clear hb HK2 c0 c1 c2
 obtain⟨c0,c1,c2⟩:=HK3.out.cells
 go_wp2_with fail
 refine(H3.out _ HK3.out).mono ?_
 rintro e w3⟨rfl,hb⟩
 have HK4:=Lib.hid (HK3.out.later hb)
 clear hb HK3 c0 c1 c2
 obtain⟨c0,c1,c2⟩:=HK4.out.cells
 have HB:=Lib.hid (HK4.out.bel)
 go_wp2
 go_ret
 exact⟨rfl,HB.out⟩
structure Bn(W:World)(T:Nat)(LA:Option Addr)(ln lc:Nat)(ls:List Lw):Prop where
 b:Blk W T 178 #[.slice LA ln lc]
 pan:PanIn W LA ln lc ls
theorem Bn.later{W W':World}{T:Nat}{LA:Option Addr}{ln lc:Nat}{ls:List Lw}(h:Bn W T LA ln lc ls)(hb:Below W.heap.size W W'):Bn W' T LA ln lc ls:=⟨h.b.later hb,h.pan.later hb⟩
set_option maxRecDepth 100000 in
set_option maxHeartbeats 2000000 in
theorem open_ok(LA:Option Addr)(ln lc:Nat)(ls:List Lw)(w:World)(hp:PanIn w LA ln lc ls)(hok:PanOk ls):
 Calls Tryz.prog 59 #[.agg #[.slice LA ln lc],.slice none 0 0] w λe w'=>∃T,e=.returned (.tuple #[.pointer (some ⟨T,0,none⟩),.int .i64 0])/\Below w.heap.size w w'/\w.heap.size<=T/\Bn w' T LA ln lc ls:=by
 have HK0:=Lib.hid (PB.start hp)
 have Hc:=Lib.hid (λ(V:World)(h:PB w V LA ln lc ls)=>checkPanel_ok LA ln lc ls V h.pan hok)
 clear hp hok
 obtain⟨c0,c1,c2⟩:=HK0.out.cells
 go_enter Tryz.func59,Tryz.ntmps59
 go_wp2_with fail
 refine(Hc.out _ HK0.out).mono ?_
 rintro e w4⟨rfl,hb⟩
 have HK1:=Lib.hid (HK0.out.later hb)
 clear hb HK0 c0 c1 c2
 obtain⟨c0,c1,c2⟩:=HK1.out.cells
 clear Hc
 go_wp2_with fail
 refine loop_n (λq a W=>a.defers=[]/\PB w W LA ln lc ls/\Fits (none::none::some (.pointer (some ⟨w.heap.size,0,none⟩))::none::none::none::none::none::none::none::none::none::none::none::some (.slice none 0 0)::some (.int .i64 0)::some (.int .i64 0)::none::none::none::none::none::none::none::none::none::none::none::none::none::none::none::[]) a.tmps.toList) 0 ?_ ?_
 ·refine⟨rfl,HK1.out,?_⟩
  repeat (first|exact fits_nil|refine fits_none ?_|refine fits_some ?_)
 clear HK1 c0 c1 c2
 intro q a W hI K1 hK
 obtain⟨hds,hC,hfit⟩:=hI
 obtain⟨f',hf'⟩:=fits_act hfit
 rw[hds]at hf'
 subst hf'
 clear hfit hds
 simp only[fillP,Nat.reduceAdd]
 obtain⟨c0,c1,c2⟩:=hC.cells
 have HC:=Lib.hid hC
 clear hC hK
 go_wp2
 go_ret2
 exact⟨W.heap.size,rfl,balloc HC.out.bel _,HC.out.bel.size,Blk.new W _ _,HC.out.pan.later (balloc (brefl _) _)⟩
end Go.Proofs.YtlclnbhjjdcnkaaGreatDoor.Sm
