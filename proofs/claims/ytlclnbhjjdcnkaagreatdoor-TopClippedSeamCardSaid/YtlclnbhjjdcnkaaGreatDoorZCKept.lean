/- clip.table.kept: the map that is returned holds just the sheets of best cuts. -/
import Derived.Test.YtlclnbhjjdcnkaaGreatDoorZCConcat
import Derived.Test.YtlclnbhjjdcnkaaGreatDoorZCOutA
import Derived.Carry
namespace Go.Proofs.YtlclnbhjjdcnkaaGreatDoor.C
open Go.RowKit Go.Shelf
end Go.Proofs.YtlclnbhjjdcnkaaGreatDoor.C
namespace Go.Proofs.YtlclnbhjjdcnkaaGreatDoor.C
open Go.RowKit Go.Shelf Go.Maps
attribute [local go_sem] Oper.semAt_some
def wtK(ks:List Kd)(A Bh:Nat->Int)(f k:Nat):Int:=A f+(ks.getD k ⟨0,0,0⟩).p+Bh (f+(ks.getD k ⟨0,0,0⟩).w.toNat)
def SSet(L:Nat)(F:Nat->Int)(ks:List Kd)(fr:Nat)(l:List Nat)(f k:Nat):Prop:=(f<fr/\canI L F ks f k=true)\/(f=fr/\k∈l)
structure KM(w W:World)(T n:Nat)(S:Nat->Nat->Prop)(wt:Nat->Nat->Int):Prop where
 bel:Below w.heap.size w W
 b0:Blk W w.heap.size 65 #[.pointer (some ⟨T,0,none⟩)]
 b2:Blk W (w.heap.size+1+1) 118 #[.map (some (w.heap.size+1))]
 own:∃D:DM,OwnsM W (w.heap.size+1) n D/\MapIs D S wt
section
variable{w W W':World}{T n:Nat}{S S':Nat->Nat->Prop}{wt:Nat->Nat->Int}
theorem KM.later(h:KM w W T n S wt)(hb:Below W.heap.size W W'):KM w W' T n S wt:=by
 obtain⟨D,h1,h2⟩:=h.own
 exact⟨Below.later h.bel hb,h.b0.later hb,h.b2.later hb,D,h1.kept (grown_none hb) (by simp),h2⟩
theorem KM.kept{B:Nat}(h:KM w W T n S wt)(hk:Kept B W W')(hB:w.heap.size+1+1<=B):KM w W' T n S wt:=by
 obtain⟨D,⟨es,clock,hb,F,hs,hD⟩,h2⟩:=h.own
 have hlt:=(Array.getElem?_eq_some_iff.1 hb).1
 exact⟨h.bel.trans ⟨hk.os,hk.tape,hk.output,hk.size,λi hi=>hk.low i (by omega) (by have:=h.bel.size;omega)⟩,h.b0.kept hk,h.b2.kept hk,D,⟨es,clock,(hk.low _ (by omega) hlt).trans hb,F,hs,hD⟩,h2⟩
theorem KM.congr(h:KM w W T n S wt)(hS:∀f k,S f k↔S' f k):KM w W T n S' wt:=by
 obtain⟨D,h1,h2⟩:=h.own
 exact⟨h.bel,h.b0,h.b2,D,h1,h2.congr hS⟩
theorem KM.cells(h:KM w W T n S wt):W.cell? ⟨w.heap.size,0,none⟩=some (.pointer (some ⟨T,0,none⟩))/\W.cell? ⟨w.heap.size+1+1,0,none⟩=some (.map (some (w.heap.size+1)))/\w.heap.size+1+1<W.heap.size:=⟨h.b0.cell 0,h.b2.cell 0,h.b2.lt⟩
theorem KM.put(h:KM w W T n S wt)(hn:n<=1000)(f k:Nat)(hf:f<=1000)(hk:k<=1000)(hw0:0<=wt f k)(hw1:wt f k<=1000000):
 ∃W',(Instr.mapUpdate 118 (.map (some (w.heap.size+1))) (.agg #[.int .i64 f,.int .i64 k]) (.int .i64 (wt f k))).run Tryz.prog W=.ok () W'/\KM w W' T (n+1) (λf' k'=>S f' k'\/(f'=f/\k'=k)) wt/\W.grownBy W' (some (w.heap.size+1)):=by
 obtain⟨D,h1,h2⟩:=h.own
 obtain⟨W',hr,ho,hg⟩:=h1.update keyed_sheet und_msheet (by simp only[maxLen];omega) (keyL_of f k hf hk) (elem_val _ (wf_mid _ hw0 hw1))
 refine⟨W',hr,⟨h.bel.trans ⟨hg.os,hg.tape,hg.output,hg.size,λi hi=>hg.block i (by have:=h.bel.size;omega) (λe=>by simp at e;omega)⟩,h.b0.grown hg (by simp),h.b2.grown hg (by simp),_,ho,h2.put f k hf hk⟩,hg⟩
end
theorem KeepD.map{W0 W W':World}{b n:Nat}{D:DM}(h:KeepD W0 W)(ho:OwnsM W b n D)(hg:W.grownBy W' (some b)):KeepD W0 W':=by
 intro k c hk
 have h1:=h k c hk
 refine(hg.block k (Array.getElem?_eq_some_iff.1 h1).1 (λhb=>?_)).trans h1
 obtain⟨es,clock,hb',_⟩:=ho
 simp at hb
 subst hb
 rw[hb']at h1
 cases h1
structure KR(w W:World)(T r:Nat)(S0:Nat->Nat->Prop)(wt:Nat->Nat->Int)(v:Int)(D:DM)(left:Lit->Bool):Prop where
 bel:Below w.heap.size w W
 b0:Blk W w.heap.size 65 #[.pointer (some ⟨T,0,none⟩)]
 b2:Blk W (w.heap.size+1+1) 118 #[.map (some (w.heap.size+1))]
 is:MapIs D (λf k=>S0 f k/\(left (keyL f k)=true\/v<=wt f k)) wt
 has:∀z,left z=true->has D z=true
 rl:w.heap.size+1+1<r
section
variable{w W W':World}{T r:Nat}{S0:Nat->Nat->Prop}{wt:Nat->Nat->Int}{v:Int}{D:DM}{left:Lit->Bool}
theorem KR.later(h:KR w W T r S0 wt v D left)(hb:Below W.heap.size W W'):KR w W' T r S0 wt v D left:=
 ⟨Below.later h.bel hb,h.b0.later hb,h.b2.later hb,h.is,h.has,h.rl⟩
theorem KR.cells(h:KR w W T r S0 wt v D left):W.cell? ⟨w.heap.size,0,none⟩=some (.pointer (some ⟨T,0,none⟩))/\W.cell? ⟨w.heap.size+1+1,0,none⟩=some (.map (some (w.heap.size+1)))/\w.heap.size+1+1<W.heap.size:=⟨h.b0.cell 0,h.b2.cell 0,h.b2.lt⟩
theorem KR.grown(h:KR w W T r S0 wt v D left)(hg:W.grownBy W' (some r)):KR w W' T r S0 wt v D left:=by
 have hrl:=h.rl
 exact⟨h.bel.trans ⟨hg.os,hg.tape,hg.output,hg.size,λi hi=>hg.block i (by have:=h.bel.size;omega) (λe=>by simp at e;omega)⟩,h.b0.grown hg (by simp;omega),h.b2.grown hg (by simp;omega),h.is,h.has,hrl⟩
theorem KR.stay(h:KR w W T r S0 wt v D left){f k:Nat}(hs:v<=wt f k)(hf:f<=1000)(hk:k<=1000):KR w W T r S0 wt v D (λz=>left z&&!z.sameKey (keyL f k)):=by
 refine⟨h.bel,h.b0,h.b2,h.is.congr (λf' k'=>?_),λz hz=>h.has z (by simp at hz;exact hz.1),h.rl⟩
 by_cases e:f'=f/\k'=k
 ·obtain⟨rfl,rfl⟩:=e
  exact⟨λhh=>⟨hh.1,.inr hs⟩,λhh=>⟨hh.1,.inr hs⟩⟩
 ·constructor
  ·rintro⟨h0,h1⟩
   have hsm:=h.is.small f' k' ⟨h0,h1⟩
   refine⟨h0,h1.imp_left λh1=>?_⟩
   have hne:keyL f' k'≠keyL f k:=λe'=>e (keyL_inj hsm.1 hsm.2 hf hk e')
   simp[h1,sameKey_ne hne]
  ·rintro⟨h0,h1⟩
   exact⟨h0,h1.imp_left λh1=>by simp at h1;exact h1.1⟩
theorem KR.gone(h:KR w W T r S0 wt v D left)(hg:W.grownBy W' (some (w.heap.size+1))){f k:Nat}(hs:wt f k<v)(hf:f<=1000)(hk:k<=1000):KR w W' T r S0 wt v (D.del (keyL f k)) (λz=>left z&&!z.sameKey (keyL f k)):=by
 have hself:(keyL f k).sameKey (keyL f k)=true:=WideAt.sameKey_self (keyed_sheet.key (keyL_of f k hf hk))
 refine⟨h.bel.trans ⟨hg.os,hg.tape,hg.output,hg.size,λi hi=>hg.block i (by have:=h.bel.size;omega) (λe=>by simp at e;omega)⟩,h.b0.grown hg (by simp),h.b2.grown hg (by simp),(h.is.del f k hf hk).congr (λf' k'=>?_),λz hz=>?_,h.rl⟩
 ·by_cases e:f'=f/\k'=k
  ·obtain⟨rfl,rfl⟩:=e
   constructor
   ·exactλhh=>absurd ⟨rfl,rfl⟩ hh.2
   ·rintro⟨h0,h1|h1⟩
    ·simp[hself]at h1
    ·omega
  ·constructor
   ·rintro⟨⟨h0,h1⟩,_⟩
    have hsm:=h.is.small f' k' ⟨h0,h1⟩
    refine⟨h0,h1.imp_left λh1=>?_⟩
    have hne:keyL f' k'≠keyL f k:=λe'=>e (keyL_inj hsm.1 hsm.2 hf hk e')
    simp[h1,sameKey_ne hne]
   ·rintro⟨h0,h1⟩
    exact⟨⟨h0,h1.imp_left λh1=>by simp at h1;exact h1.1⟩,e⟩
 ·simp at hz
  have hne:z≠keyL f k:=λe=>by subst e;rw[hself]at hz;simp at hz
  rw[has_del_other hne]
  exact h.has z hz.1
end
def keptS(L:Nat)(F:Nat->Int)(ks:List Kd)(A Bh:Nat->Int)(f k:Nat):Prop:=f<L/\canI L F ks f k=true/\A L<=wtK ks A Bh f k
set_option maxRecDepth 100000 in
set_option maxHeartbeats 4000000 in
theorem kept_any(T L:Nat)(FA:Option Addr)(fn fc:Nat)(KA:Option Addr)(kc:Nat)(fs:List Int)(ks:List Kd)(w:World)(hT:TabOk w T L FA fn fc KA kc fs ks):
 Calls Tryz.prog 65 #[.pointer (some ⟨T,0,none⟩)] w λe w'=>∃(b n:Nat)(D:DM),e=.returned (.map (some b))/\Below w.heap.size w w'/\w.heap.size<=b/\n<=1000/\OwnsM w' b n D/\MapIs D (keptS L (Fst fs L) ks (aheadAt L (Fst fs L) ks L) (behindAt L (Fst fs L) ks L)) (wtK ks (aheadAt L (Fst fs L) ks L) (behindAt L (Fst fs L) ks L)):=by
 have hL1:=hT.l1
 have hL2:=hT.l2
 have hko:=hT.kok
 have hA24:=aheadAt_bd (L:=L) (F:=Fst fs L) hko L
 have hB24:=behindAt_bd (L:=L) (F:=Fst fs L) hko L (Nat.le_refl _)
 have HT:=Lib.hid hT
 have Hk:=Lib.hid hko
 have Hne:=Lib.hid hT.ne
 have hkl:=hko.2.1
 have hTl:=hT.tab.core.lt
 have t0:=hT.tab.core.len
 have hah:=hT.tab.ah
 have hbe:=hT.tab.be
 obtain⟨Bh,hBh⟩:∃Bh,behindAt L (Fst fs L) ks L=Bh:=⟨_,rfl⟩
 obtain⟨A,hA⟩:∃A,aheadAt L (Fst fs L) ks L=A:=⟨_,rfl⟩
 rw[hBh]at hB24 hbe ⊢
 rw[hA]at hA24 hah ⊢
 have HA24:=Lib.hid hA24
 have HB24:=Lib.hid hB24
 have Hah:=Lib.hid hah
 have Hbe:=Lib.hid hbe
 have Hkb:=Lib.hid (show∀b o,KA=some ⟨b,o,none⟩->b<w.heap.size fromλb o h=>by obtain⟨b',o',hA,hB,_⟩:=hT.tab.core.kds.at_ (by have:=hko.1;omega);rw[h]at hA;cases hA;exact hB)
 obtain⟨wt,hwt⟩:∃wt,wtK ks A Bh=wt:=⟨_,rfl⟩
 rw[hwt]
 have Hwt:=Lib.hid hwt
 have HBhE:=Lib.hid hBh
 have HAE:=Lib.hid hA
 clear hT hko hA24 hB24 hah hbe hwt hBh hA
 refine calls_of_marks Tryz.func65 rfl ?_
 simp only[Tryz.ntmps65,List.size_toArray,List.length_cons,List.length_nil,Nat.reduceAdd,Nat.reduceSub,Array.replicate_succ,Array.replicate_zero,List.push_toArray,List.append_toArray,List.nil_append,List.cons_append]
 have hmm:=@run_makeMap Tryz.prog
 have hTs:T<w.heap.size+1:=by omega
 have hTs2:T<w.heap.size+1+1:=by omega
 have hTs3:T<w.heap.size+1+1+1:=by omega
 go_wp2_with fail
 have hM0:KM w (((w.alloc (.cells #[.pointer (some ⟨T,0,none⟩)] 65)).alloc (.map #[] 0)).alloc (.cells #[.map (some (w.heap.size+1))] 118)) T 0 (SSet L (Fst fs L) ks 0 []) wt:=by
  refine⟨balloc (balloc (balloc (brefl w) _) _) _,((Blk.new w _ _).alloc _).alloc _,?_,.map [],?_,(MapIs.empty wt).congr (λf k=>by simp[SSet])⟩
  ·have h5:=Blk.new ((w.alloc (.cells #[.pointer (some ⟨T,0,none⟩)] 65)).alloc (.map #[] 0)) 118 #[.map (some (w.heap.size+1))]
   rw[World.size_alloc,World.size_alloc]at h5
   exact h5
  ·have h5:=(World.ownsMap_made (H:=Unit) (w.alloc (.cells #[.pointer (some ⟨T,0,none⟩)] 65)) Tryz.prog 121 (plainElem Tryz.prog 2)).alloc (.cells #[.map (some (w.heap.size+1))] 118)
   rw[World.size_alloc]at h5
   exact h5
 have HM0:=Lib.hid hM0
 clear hM0
 generalize ((w.alloc (.cells #[.pointer (some ⟨T,0,none⟩)] 65)).alloc (.map #[] 0)).alloc (.cells #[.map (some (w.heap.size+1))] 118)=W0 at*
 have t0':W0.cell? ⟨T,0,none⟩=some (.int .i64 L):=(HM0.out.bel.cell (p:=⟨T,0,none⟩) hTl).trans t0
 have hTW0:T<W0.heap.size:=Nat.lt_of_lt_of_le hTl HM0.out.bel.size
 obtain⟨m0,m2,ml⟩:=HM0.out.cells
 have ml0:w.heap.size<W0.heap.size:=by omega
 go_wp2_with fail
 clear t0' hTW0 m0 m2 ml ml0 hmm t0 hTs hTs2 hTs3
 refine loop_n (λm a W=>∃fr n:Nat,fr+m=L/\n<=6*fr/\KM w W T n (SSet L (Fst fs L) ks fr []) wt/\Marks (w.heap.size+1+1) W a.defers/\Fits (none::some (.pointer (some ⟨w.heap.size,0,none⟩))::none::some (.pointer (some ⟨w.heap.size+1+1,0,none⟩))::none::none::none::none::none::none::none::none::none::some (.int .i64 (L:Nat))::some (.int .i64 (fr:Nat))::none::none::none::none::none::none::none::none::none::none::none::none::none::none::none::none::none::none::none::none::none::none::none::none::none::none::none::none::none::none::none::none::none::none::none::none::none::none::none::none::none::none::none::none::none::none::none::none::none::none::none::none::none::none::none::none::none::[]) a.tmps.toList) L ?_ ?_
 ·refine⟨0,0,by omega,by omega,HM0.out,Marks.nil _ _,?_⟩
  repeat (first|exact fits_nil|refine fits_none ?_|refine fits_some ?_)
 clear HM0
 clear W0
 intro m a W hI K hK
 obtain⟨fr,n,hfm,hn6,hM,hm,hfit⟩:=hI
 obtain⟨f,hf⟩:=fits_act hfit
 generalize a.defers=ds at*
 subst hf
 clear hfit
 simp only[fillP,Nat.reduceAdd]
 obtain⟨m0,m2,ml⟩:=hM.cells
 have ml0:w.heap.size<W.heap.size:=by omega
 have HM:=Lib.hid hM
 have Hm:=Lib.hid hm
 clear hM hm
 by_cases hlt:fr<L
 ·have i1:(fr:Int)<(L:Int):=by omega
  have hG1:=balloc (brefl W) (.cells #[.int .i64 fr] 3)
  have hE0:Blk (W.alloc (.cells #[.int .i64 fr] 3)) W.heap.size 3 #[.int .i64 fr]:=Blk.new W _ _
  have HM1:=Lib.hid (HM.out.later hG1)
  have Hm1:=Lib.hid (Hm.out.later hG1)
  have HE0:=Lib.hid hE0
  clear hG1 hE0
  go_wp2_with fail
  refine(sheets_any T fr _).mono ?_
  generalize W.alloc (.cells #[.int .i64 fr] 3)=W2 at*
  rintro e w3⟨rfl,hw3⟩
  have hb3:Below W2.heap.size W2 w3:=by rw[<-hw3];exact balloc (balloc (brefl _) _) _
  have d1:w3.cell? ⟨W2.heap.size,0,none⟩=some (.pointer (some ⟨T,0,none⟩)):=by rw[<-hw3];exact((Blk.new W2 _ _).alloc _).cell 0
  have d2:w3.cell? ⟨W2.heap.size+1,0,none⟩=some (.int .i64 fr):=by rw[<-hw3];have h5:=(Blk.new (W2.alloc (.cells #[.pointer (some ⟨T,0,none⟩)] 65)) 3 #[.int .i64 fr]).cell 0;rw[World.size_alloc]at h5;exact h5
  have d3:w3.heap.size=W2.heap.size+1+1:=by rw[<-hw3];simp
  have D3:=Lib.hid d3
  have Hb3:=Lib.hid hb3
  have D1:=Lib.hid d1
  have D2:=Lib.hid d2
  have hM3:=HM1.out.later Hb3.out
  have hE3:=HE0.out.later Hb3.out
  have hT3:=HT.out.later hM3.bel
  have hz3:w.heap.size+1+1<w3.heap.size:=hM3.b2.lt
  have hz2:w.heap.size+1+1<W2.heap.size:=HM1.out.b2.lt
  have HW2:=Lib.hid (HE0.out.lt)
  have HM3:=Lib.hid hM3
  have HE3:=Lib.hid hE3
  have HT3:=Lib.hid hT3
  obtain⟨E,hE⟩:∃E,W.heap.size=E:=⟨_,rfl⟩
  rw[hE]at HE0 HE3 HW2 ml ml0 ⊢
  clear hw3 hb3 d1 d2 d3 hE3 hT3 hM3 m0 m2 hE
  go_wp2_with fail
  refine range_sheets (B1:=W2.heap.size) (B2:=W2.heap.size+1) (T:=T) (L:=L) (F:=Fst fs L) (fr:=fr) (d:=5) (w:=w3) rfl Hk.out hL2 (Fst_bd fs hL2) (by omega) Hne.out (by rw[D3.out];omega) (by rw[D3.out];omega) D1.out D2.out HT3.out.tab.core
   (λ(pre:List (Ki L (Fst fs L) ks fr))W=>∃n:Nat,n<=6*fr+pre.length/\KM w W T n (SSet L (Fst fs L) ks fr (pre.map Subtype.val)) wt/\Blk W E 3 #[.int .i64 fr]/\KeepD w3 W)
   (λc(pre:List (Ki L (Fst fs L) ks fr))W=>False)
   ?hI ?hIx
   ⟨n,by simpa using hn6,HM3.out,HE3.out,KeepD.refl _⟩ ?assign ?body ?done ?stop
  case hI=>
   intro pre W W' hK h
   obtain⟨n,h1,h2,h3,h4⟩:=h
   exact⟨n,h1,h2.kept hK (by omega),h3.kept hK,h4.kept hK⟩
  case hIx=>exactλc pre W W' hK h=>h
  case assign=>
   intro l x W K hK
   gi_wp2
   exact hK
  case body=>
   intro l pre x Bx W hWs hBx hbx hI hpl
   obtain⟨n,hn,hM,hEb,hKD⟩:=hI
   obtain⟨k,hkc⟩:=x
   obtain⟨y,hy,hcb⟩:∃y,ks[k]? =some y/\canB L (Fst fs L) y fr=true:=by
    unfold canI at hkc
    cases hy:ks[k]? with
    |none=>rw[hy]at hkc;cases hkc
    |some y=>rw[hy]at hkc;exact⟨y,rfl,hkc⟩
   have hybd:=Hk.out.bd hy
   obtain⟨wd,hwd⟩:∃wd:Nat,y.w=wd:=⟨y.w.toNat,by omega⟩
   have hle:=(canB_iff.1 hcb).1
   rw[hwd]at hle
   have hgd:ks.getD k ⟨0,0,0⟩=y:=by simp[List.getD,hy]
   have hTW:=HT.out.later hM.bel
   have HTW:=Lib.hid hTW
   have HendW:=Lib.hid (show∀W',Below W.heap.size W W'->Calls Tryz.prog 30 #[.pointer (some ⟨T,0,none⟩),.agg #[.int .i64 fr,.int .i64 k]] W' λe w'=>e=.returned (.int .i64 (fr+wd))/\Below W'.heap.size W' w' by
    intro W' hb
    have h5:=end_tab (HTW.out.later hb).tab.core Hk.out hy (fr:Int) (by omega) (by omega)
    rw[hwd]at h5
    exact h5)
   obtain⟨kb,ko,y',hKA,hkb,hy',_,e1,_⟩:=hTW.tab.core.kds.ltK (List.getElem?_eq_some_iff.1 hy).1
   rw[hy]at hy'
   cases hy'
   have t1:=hTW.tab.core.knd
   have t2:W.cell? ⟨T,28+fr,none⟩=some (.int .i64 (A fr)):=(hM.bel.cell (p:=⟨T,28+fr,none⟩) hTl).trans (Hah.out fr (by omega))
   have t3:W.cell? ⟨T,53+(fr+wd),none⟩=some (.int .i64 (Bh (fr+wd))):=(hM.bel.cell (p:=⟨T,53+(fr+wd),none⟩) hTl).trans (Hbe.out (fr+wd) (by omega))
   have hwt:wt fr k=A fr+y.p+Bh (fr+wd):=by rw[<-Hwt.out];unfold wtK;rw[hgd,hwd];rfl
   have b0:=hbx.cell 0
   have b1:=hbx.cell 1
   have bz:=hbx.lt
   have u0:=hEb.cell 0
   have uz:=hEb.lt
   obtain⟨m0,m2,ml⟩:=hM.cells
   have m10:w.heap.size<W.heap.size:=by omega
   have hkl2:k<ks.length:=(List.getElem?_eq_some_iff.1 hy).1
   obtain⟨p1,p2⟩:=hybd.2.1
   obtain⟨a1,a2⟩:=HA24.out fr
   obtain⟨a3,a4⟩:=HB24.out (fr+wd)
   have hWT:T<W.heap.size:=hTW.tab.core.lt
   have HM:=Lib.hid hM
   have HEb:=Lib.hid hEb
   have HKD:=Lib.hid hKD
   have Hkb2:=Lib.hid (show∀b o,KA=some ⟨b,o,none⟩->b<W.heap.size/\b<w.heap.size fromλb o h=>by have:=Hkb.out b o h;have:=hM.bel.size;omega)
   subst hKA
   have j0:(0:Int)<=(fr:Int)+(wd:Int):=by omega
   have j1:(fr:Int)+(wd:Int)<25:=by omega
   have j2:((fr:Int)+(wd:Int)).toNat=fr+wd:=by omega
   have j3:(fr:Int)<25:=by omega
   have j4:(0:Int)<=(fr:Int):=by omega
   have j5:(k:Int)<(ks.length:Int):=by omega
   have j6:(0:Int)<=(k:Int):=by omega
   have a5:A fr<=24000:=by omega
   have a6:Bh (fr+wd)<=24000:=by omega
   have HWs:=Lib.hid hWs
   have Hwtk:=Lib.hid hwt
   clear hM hEb hKD hy hcb hgd hTW hybd hwd hbx hWs hwt a2 a4
   unfold boxedAct
   gi_wp2_with fail
   refine dagIn 28 (lets_round l 7 _) (by kernel_rfl) (by kernel_rfl) (.is ?_::.is ?_::.is ?_::.is ?_::.is ?_::.is ?_::.is ?_::.is ?_::.is ?_::.is ?_::.is ?_::.is ?_::.is ?_::.is ?_::.is ?_::.is ?_::.is ?_::.is ?_::.is ?_::.is ?_::.is ?_::.is ?_::.is ?_::.is ?_::.is ?_::.is ?_::.is ?_::.is ?_::[]) rfl ?st2 ?ob2
   case st2=>simp[Spec.ok]
   case ob2=>
    intro env W' hG
    obtain⟨hc,hf⟩:=bcell hG
    iterate 22 (refine obls_is ?_ ?_;unfold doesAt;go_simp;(try go_bits);(first|(refine⟨brefl _,?_⟩;rfl)|rfl);intro K hK;go_simp;refine hK _ ?_;clear hK K)
    refine obls_is ?_ ?_
    ·unfold doesAt
     go_simp
     refine(HendW.out W' hG).mono ?_
     rintro e w1⟨rfl,hb1⟩
     refine⟨?_,hb1⟩
     rfl
    intro K hK
    go_simp
    refine hK _ ?_
    clear hK K
    iterate 5 (refine obls_is ?_ ?_;unfold doesAt;go_simp;(try go_bits);(first|(refine⟨brefl _,?_⟩;rfl)|rfl);intro K hK;go_simp;refine hK _ ?_;clear hK K)
    refine obls_last (λ_=>?_)
    have hM':=HM.out.later hG
    obtain⟨D0,hown0,_⟩:=hM'.own
    obtain⟨w',hrun,hM2,hgr⟩:=hM'.put (by have:=Nat.lt_of_lt_of_le hpl hkl;omega) fr k (by omega) (by omega) (by rw[Hwtk.out];omega) (by rw[Hwtk.out];omega)
    rw[Hwtk.out]at hrun
    have HG:=Lib.hid hG
    have HM2:=Lib.hid hM2
    have Hgr:=Lib.hid hgr
    have Hown0:=Lib.hid hown0
    clear hc hf hG hM' hM2 hgr hown0
    unfold doesAt
    go_simp
    have hWl:w3.heap.size<=W.heap.size:=HWs.out
    have hGs:=HG.out.size
    refine⟨(KeepsFrom.later HG.out).trans (KeepsFrom.of_grownBy Hgr.out (λj hj=>by cases hj;omega)),(KpT.of_below HG.out (by rw[D3.out]at hWl;omega) (by rw[D3.out]at hWl;omega) hWT (λb o h=>(Hkb2.out b o h).1)).trans (KpT.of_grown Hgr.out (by rw[D3.out]at hWl;omega) (by rw[D3.out]at hWl;omega) (by omega) (λb o h=>⟨by have:=(Hkb2.out b o h).1;omega,λe=>by have:=(Hkb2.out b o h).2;simp at e;omega⟩) (λe=>by simp at e;omega) (λe=>by simp at e;omega) (λe=>by simp at e;omega)),n+1,by simp;omega,HM2.out.congr (λf' k'=>?_),(HEb.out.later HG.out).grown Hgr.out (λe=>by simp at e;omega),(HKD.out.later HG.out).map Hown0.out Hgr.out⟩
    simp only[SSet,List.map_append,List.map_cons,List.map_nil,List.mem_append,List.mem_singleton]
    rw[and_or_left,or_assoc]
  case done=>
   intro D' W5 hD' hI5 hd
   obtain⟨n5,hn5,hM5,hE5,hKD5⟩:=hI5
   have hval:(kiTo L (Fst fs L) ks fr ks.length).map Subtype.val=(List.range ks.length).filter (canI L (Fst fs L) ks fr):=kiTo_val _ _ _ _ _
   have hkll:=kiTo_len L (Fst fs L) ks fr ks.length
   have hM6:KM w W5 T n5 (SSet L (Fst fs L) ks (fr+1) []) wt:=hM5.congr (λf k=>by
    rw[hval]
    simp only[SSet,List.mem_filter,List.mem_range,List.not_mem_nil,and_false,or_false]
    constructor
    ·rintro(⟨h1,h2⟩|⟨h1,h2,h3⟩)
     ·exact⟨by omega,h2⟩
     ·exact⟨by omega,by rw[h1];exact h3⟩
    ·rintro⟨h1,h2⟩
     by_cases e:f=fr
     ·subst e
      refine .inr ⟨rfl,?_,h2⟩
      unfold canI at h2
      cases hy:ks[k]? with
      |none=>rw[hy]at h2;cases h2
      |some y=>exact(List.getElem?_eq_some_iff.1 hy).1
     ·exact .inl ⟨by omega,h2⟩)
   have hmk:Marks (w.heap.size+1+1) W5 (mark D'::ds):=(Hm1.out.later Hb3.out).cons hD' (by omega) hd (λk c _ hk=>hKD5 k c hk)
   have HM6:=Lib.hid hM6
   have Hmk:=Lib.hid hmk
   clear hM5 hE5 hKD5 hval hd hmk hM6
   go_wp2
   refine hK _ _ (m-1) (by omega) ⟨fr+1,n5,by omega,by omega,HM6.out,Hmk.out,?_⟩
   repeat (first|exact fits_nil|refine fits_none ?_|refine fits_some ?_)
  case stop=>
   intro D' c pre W5 hD' hpre hI5 hd
   exact hI5.elim
 ·obtain rfl:fr=L:=by omega
  obtain⟨D0,hown0,hD0⟩:=HM.out.own
  have Hown0:=Lib.hid hown0
  have HD0:=Lib.hid hD0
  have hNr:w.heap.size+1+1<W.heap.size:=ml
  clear hown0 hD0 hK
  go_wp2_with (at_range;refine wpList_range_own _ rfl _ 118 rfl 121 2 keyed_sheet und_msheet _ (w.heap.size+1) n D0 rfl Hown0.out ?_;intro w0 hrg0 hg0 hs0)
  go_frame
  have hR0:KR w w0 T W.heap.size (SSet fr (Fst fs fr) ks fr []) wt (A fr) D0 (Maps.has D0):=by
   refine⟨HM.out.bel.trans ⟨hg0.os,hg0.tape,hg0.output,hg0.size,λi hi=>hg0.block i (by have:=HM.out.bel.size;omega) (λe=>by cases e)⟩,HM.out.b0.grown hg0 (λe=>by cases e),HM.out.b2.grown hg0 (λe=>by cases e),HD0.out.congr (λf k=>?_),λz h=>h,hNr⟩
   exact⟨λh=>⟨h,.inl (HD0.out.yes f k h).1⟩,λh=>h.1⟩
  have hm0:Marks (w.heap.size+1+1) w0 ds:=Hm.out.kept (λk c h=>(hg0.block k (Array.getElem?_eq_some_iff.1 h).1 (λe=>by cases e)).trans h)
  have HR0:=Lib.hid hR0
  have Hrg0:=Lib.hid hrg0
  have Hm0:=Lib.hid hm0
  generalize W.heap.size=r at*
  clear hrg0 hg0 hs0 hR0 hm0 HM Hm Hown0 HD0 m0 m2 ml ml0 hNr
  clear W
  refine loop_n (λm a W=>a.defers=ds/\∃(D:DM)(left:Lit->Bool)(cnt:Nat),cnt<=m/\KR w W T r (SSet fr (Fst fs fr) ks fr []) wt (A fr) D left/\RangesM W (w.heap.size+1) r n D left cnt/\Marks (w.heap.size+1+1) W ds/\Fits (none::some (.pointer (some ⟨w.heap.size,0,none⟩))::none::some (.pointer (some ⟨w.heap.size+1+1,0,none⟩))::none::none::none::none::none::none::none::none::none::none::none::none::none::none::none::none::none::none::none::none::none::none::none::none::none::none::none::none::none::none::none::none::none::none::none::none::none::none::none::none::none::none::none::none::none::none::none::some (.pointer (some ⟨r,0,none⟩))::none::none::none::none::none::none::none::none::none::none::none::none::none::none::none::none::none::none::none::none::[]) a.tmps.toList) (Maps.size D0) ?_ ?_
  ·refine⟨rfl,D0,_,_,Nat.le_refl _,HR0.out,Hrg0.out,Hm0.out,?_⟩
   repeat (first|exact fits_nil|refine fits_none ?_|refine fits_some ?_)
  clear HR0 Hrg0 Hm0
  clear w0
  intro m a W hI K hK
  obtain⟨hds,D,left,cnt,hcm,hR,hrg,hm,hfit⟩:=hI
  obtain⟨f,hf⟩:=fits_act hfit
  rw[hds]at hf
  subst hf
  clear hfit hds
  simp only[fillP,Nat.reduceAdd]
  have HR:=Lib.hid hR
  have Hrg:=Lib.hid hrg
  have Hm:=Lib.hid hm
  clear hR hrg hm
  rcases Hrg.out.next keyed_sheet 0 with⟨hc0,hl0,hrun⟩|⟨x,c,kl,y,w1,cnt1,hkey,hlk,hv,hat,hrun,hrg1,hlt1,hgr,hsz,hen⟩
  ·have hown:=Hrg.out.owns
   have hD:MapIs D (keptS fr (Fst fs fr) ks A Bh) wt:=HR.out.is.congr (λf k=>by
    rw[hl0]
    simp only[SSet,keptS,Hwt.out,List.not_mem_nil,and_false,or_false,Bool.false_eq_true,false_or,and_assoc])
   obtain⟨m0,m2,ml⟩:=HR.out.cells
   have Hown:=Lib.hid hown
   have HD:=Lib.hid hD
   clear hc0 hl0 hown hD hK
   go_wp2_with fail
   refine postM_ret (B:=w.heap.size+1+1) (v:=.map (some (w.heap.size+1))) Hm.out (λW'=>results_tmp (t:=2) rfl _ _ _) (λW' hK=>?_)
   refine⟨w.heap.size+1,n,D,rfl,?_,by omega,by omega,?_,HD.out⟩
   ·exact HR.out.bel.trans ⟨hK.os,hK.tape,hK.output,hK.size,λi hi=>hK.low i (by omega) (by have:=HR.out.bel.size;omega)⟩
   ·obtain⟨es,clock,hb,F,hs,hD⟩:=Hown.out
    exact⟨es,clock,(hK.low _ (by omega) (by omega)).trans hb,F,hs,hD⟩
  ·obtain⟨f',k',rfl,hS⟩:=HR.out.is.only kl (HR.out.has kl hlk)
   have hsm:=HR.out.is.small f' k' hS
   obtain rfl:x=.agg #[.int .i64 f',.int .i64 k']:=keyed_sheet.inj hkey (keyL_of f' k' hsm.1 hsm.2)
   obtain⟨cv,rfl,hy,hwf⟩:=plainElem_int_inv und_i64 hv
   obtain rfl:cv=wt f' k':=by
    have h1:=(HR.out.is.yes f' k' hS).2 (.lit (.int .i64 0))
    rw[hat,hy]at h1
    simpa using h1
   obtain⟨hf1,hk1⟩:=hsm
   have hR1:=HR.out.grown hgr
   have hm1:=Hm.out.kept (W':=w1) (λk c h=>(hgr.block k (Array.getElem?_eq_some_iff.1 h).1 (λe=>by
    simp at e
    subst e
    obtain⟨_,_,_,_,_,_,_,_,_,hr,_⟩:=Hrg.out
    rw[hr]at h;cases h)).trans h)
   obtain⟨m0,m2,ml⟩:=hR1.cells
   have ml0:w.heap.size<w1.heap.size:=by omega
   have t0:=(HT.out.later hR1.bel).tab.core.len
   have t1:w1.cell? ⟨T,28+fr,none⟩=some (.int .i64 (A fr)):=(hR1.bel.cell (p:=⟨T,28+fr,none⟩) hTl).trans (Hah.out fr (by omega))
   have tl:T<w1.heap.size:=by have:=hR1.bel.size;omega
   have hGs:=balloc (brefl w1) (.cells #[.int .i64 f',.int .i64 k'] 121)
   have hBs:Blk (w1.alloc (.cells #[.int .i64 f',.int .i64 k'] 121)) w1.heap.size 121 #[.int .i64 f',.int .i64 k']:=Blk.new _ _ _
   have HGs:=Lib.hid hGs
   have HBs:=Lib.hid hBs
   have HR1:=Lib.hid hR1
   have Hm1:=Lib.hid hm1
   have Hrg1:=Lib.hid hrg1
   have j3:(fr:Int)<25:=by omega
   have j4:(0:Int)<=(fr:Int):=by omega
   have hsl:w1.heap.size<w1.heap.size+1:=by omega
   clear hkey hlk hv hat hgr hsz hS hy hwf hR1 hm1 hrg1 hGs hBs
   clear HR Hrg Hm
   generalize hq:wt f' k'=q at*
   have Hq:=Lib.hid hq
   clear hq
   cases hd:decide (q<A fr)with
   |true=>
    have Hd:=Lib.hid hd
    go_wp2_with fail
    refine dag 12 (by kernel_rfl) (by kernel_rfl) (.is ?_::.is ?_::.is ?_::.is ?_::.is ?_::.is ?_::.is ?_::.is ?_::.is ?_::.is ?_::.is ?_::.is ?_::[]) rfl ?st3 ?ob3
    case st3=>simp[Spec.ok]
    case ob3=>
     intro env W' hG
     obtain⟨hc,hf⟩:=bcell hG
     repeat (refine obls_is ?_ ?_;unfold doesAt;go_simp;(try go_bits);(first|(refine⟨brefl _,?_⟩;rfl)|rfl);intro K hK;go_simp;refine hK _ ?_;clear hK K)
     refine obls_nil (λ_=>?_)
     have hGG:=Below.later HGs.out hG
     have hR2:=HR1.out.later hGG
     have hrg2:RangesM W' (w.heap.size+1) r n D (λz=>left z&&!z.sameKey (keyL f' k')) cnt1:=Hrg1.out.kept (grown_none hGG) (by simp) (by simp)
     obtain⟨w',cnt',hrunD,hrg3,hle,hturn⟩:=hrg2.drop keyed_sheet und_msheet (keyL_of f' k' hf1 hk1) 0
     rw[Maps.strike_twice]at hrg3
     have hR3:=hR2.gone hturn.grown (f:=f') (k:=k') (by rw[Hq.out];simpa using Hd.out) hf1 hk1
     have hm3:=((Hm1.out.later hGG).kept (W':=w') (λk c h=>(hturn.grown.block k (Array.getElem?_eq_some_iff.1 h).1 (λe=>by
      simp at e
      subst e
      obtain⟨_,_,hb,_⟩:=hrg2.owns
      rw[hb]at h;cases h)).trans h))
     obtain⟨n0,n2,nl⟩:=hR2.cells
     have hB2:=HBs.out.later hG
     have s0:=hB2.cell 0
     have s1:=hB2.cell 1
     have sl:=hB2.lt
     have HR3:=Lib.hid hR3
     have Hrg3:=Lib.hid hrg3
     have Hm3:=Lib.hid hm3
     clear hc hf hG hGG hR2 hrg2 hrg3 hturn hR3 hm3 hB2 hen hrun m0 m2 t0 t1
     go_wp2
     refine hK _ _ (m-1) (by omega) ⟨rfl,_,_,cnt',by omega,HR3.out,Hrg3.out,Hm3.out,?_⟩
     repeat (first|exact fits_nil|refine fits_none ?_|refine fits_some ?_)
   |false=>
    have Hd:=Lib.hid hd
    go_wp2_with fail
    refine dag 12 (by kernel_rfl) (by kernel_rfl) (.is ?_::.is ?_::.is ?_::.is ?_::.is ?_::.is ?_::.is ?_::.is ?_::.is ?_::.is ?_::.is ?_::.is ?_::[]) rfl ?st4 ?ob4
    case st4=>simp[Spec.ok]
    case ob4=>
     intro env W' hG
     obtain⟨hc,hf⟩:=bcell hG
     repeat (refine obls_is ?_ ?_;unfold doesAt;go_simp;(try go_bits);(first|(refine⟨brefl _,?_⟩;rfl)|rfl);intro K hK;go_simp;refine hK _ ?_;clear hK K)
     refine obls_nil (λ_=>?_)
     have hGG:=Below.later HGs.out hG
     have HR3:=Lib.hid ((HR1.out.later hGG).stay (f:=f') (k:=k') (by rw[Hq.out];have:=Hd.out;simp at this;omega) hf1 hk1)
     have Hrg3:=Lib.hid (show RangesM W' (w.heap.size+1) r n D (λz=>left z&&!z.sameKey (keyL f' k')) cnt1 from Hrg1.out.kept (grown_none hGG) (by simp) (by simp))
     have Hm3:=Lib.hid (Hm1.out.later hGG)
     clear hc hf hG hGG hen hrun m0 m2 t0 t1
     go_wp2
     refine hK _ _ (m-1) (by omega) ⟨rfl,_,_,cnt1,by omega,HR3.out,Hrg3.out,Hm3.out,?_⟩
     repeat (first|exact fits_nil|refine fits_none ?_|refine fits_some ?_)
end Go.Proofs.YtlclnbhjjdcnkaaGreatDoor.C
