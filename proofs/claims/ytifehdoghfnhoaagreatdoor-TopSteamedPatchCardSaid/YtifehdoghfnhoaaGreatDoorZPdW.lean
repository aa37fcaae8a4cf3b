/- TopSteamedPatch: the walk. -/
import Derived.Test.YtifehdoghfnhoaaGreatDoorZPdV
namespace Go.Proofs.YtifehdoghfnhoaaGreatDoor.Pa
open Go.RowKit Go.Shelf Go.Proofs.YtifehdoghfnhoaaGreatDoor.C
set_option maxRecDepth 100000 in
set_option maxHeartbeats 16000000 in
theorem steamed_law(H4:Hid (∀W:World,Calls Tryz.prog 13 #[] W (λe W'=>e=.returned (.bool true)/\Gr W W')))(cu bu mu:Int)(w:World)(hcu:0<=cu/\cu<=255)(hbu:0<=bu/\bu<=255)(hmu:0<=mu/\mu<=255):
 Calls Tryz.prog 3 #[.int .u8 cu,.int .u8 bu,.int .u8 mu] w λe w'=>e=.returned (.bool true)/\Below w.heap.size w w':=by
 obtain⟨b,rfl⟩:∃b:Nat,bu=b:=⟨bu.toNat,by omega⟩
 obtain⟨tn,htn⟩:∃t,cu.tmod 6=t:=⟨_,rfl⟩
 obtain⟨tm,htm⟩:∃t,mu.tmod 6=t:=⟨_,rfl⟩
 have htn6:0<=tn/\tn<6:=by
  rw[<-htn,Int.tmod_eq_emod_of_nonneg hcu.1]
  omega
 have htm6:0<=tm/\tm<6:=by
  rw[<-htm,Int.tmod_eq_emod_of_nonneg hmu.1]
  omega
 obtain⟨n,hn⟩:∃n:Nat,1+tn=n:=⟨(1+tn).toNat,by omega⟩
 obtain⟨m,hm⟩:∃m:Nat,1+tm=m:=⟨(1+tm).toNat,by omega⟩
 have hn6:1<=n/\n<=6:=by omega
 have hm6:1<=m/\m<=6:=by omega
 have k1:IntKind.i64.wrap cu=cu:=by rw[IntKind.wrap_i64];omega
 have k2:IntKind.i64.wrap tn=tn:=by rw[IntKind.wrap_i64];omega
 have k3:IntKind.i64.wrap (1+tn)=(n:Int):=by rw[IntKind.wrap_i64];omega
 have k4:IntKind.i64.wrap mu=mu:=by rw[IntKind.wrap_i64];omega
 have k5:IntKind.i64.wrap tm=tm:=by rw[IntKind.wrap_i64];omega
 have k6:IntKind.i64.wrap (1+tm)=(m:Int):=by rw[IntKind.wrap_i64];omega
 have Hn6:=Lib.hid hn6
 have Hm6:=Lib.hid hm6
 have HStrip:=Lib.hid (strip_ok n b m hn6.2 (by omega) w)
 have HLaw:=Lib.hid (law_is b n m hn6 hm6)
 have Hok:=Lib.hid (row_ok (b:=b) hn6 hm6)
 have Hkl:=Lib.hid (row_len (b:=b) hn6.2)
 have H35:=Lib.hid (row_35 b n)
 have HKn:=Lib.hid (row_knots b n)
 have HKl:(ksN b n).length<=6:=by
  have:=colsN_len b n
  simp[ksN]
  omega
 have HKl6:=Lib.hid HKl
 have Hcol:=Lib.hid (show∀x∈ksN b n,x.2<n fromλx hx=>by
  obtain⟨y,hy,rfl⟩:=List.mem_map.1 hx
  exact colsN_lt b n y hy)
 obtain⟨row,hrow⟩:∃r,rowB b n=r:=⟨_,rfl⟩
 rw[hrow]at HStrip Hok Hkl H35 HKn
 have Hsz:=Lib.hid (show∀s∈[row],s.size=n fromλs hs=>by rw[List.mem_singleton.1 hs,<-hrow,rowB_size])
 clear htn6 htm6 hn hm hn6 hm6 hrow hcu hbu hmu HKl
 go_enter Tryz.func3,Tryz.ntmps3
 go_wp2_with fail
 refine HStrip.out.mono ?_
 rintro e w1⟨k,rfl,hb1,hk1,hk2⟩
 clear htn htm k1 k2 k3 k4 k5 k6 HStrip
 have HS2:=Lib.hid (show SheetW w (w1.alloc (.cells #[.slice (some ⟨k,0,none⟩) 1 1,.int .i64 (m:Nat)] 24)) k w1.heap.size row m from
  ⟨hb1.alloc hb1.size _,by simp;omega,((balloc (brefl w1) _).cell (p:=⟨k,0,none⟩) hk1).trans hk2,Blk.new w1 _ _⟩)
 obtain⟨S,hS⟩:∃S,w1.heap.size=S:=⟨_,rfl⟩
 rw[hS]at HS2
 clear hb1 hk1 hk2
 have HKnots:=Lib.hid (λW(h:SheetW w W k S row m)=>by
  have h1:=knots_ok (some ⟨k,0,none⟩) 1 1 m n [row] W h.sl (by omega) Hsz.out Hn6.out.2
  rw[HKn.out]at h1
  exact h1)
 have HFew:=Lib.hid (λW(h:SheetW w W k S row m)=>by
  have h1:=Fewest_ok (some ⟨k,0,none⟩) 1 1 m n [row] W h.sl Hok.out Hkl.out H35.out
  rw[HKn.out,HLaw.out.mend]at h1
  exact h1)
 have HAlone:=Lib.hid (λW(h:SheetW w W k S row m)=>by
  have h1:=Alone_ok (some ⟨k,0,none⟩) 1 1 m n [row] W h.sl Hok.out Hkl.out H35.out
  rw[HKn.out,HLaw.out.alone]at h1
  exact h1)
 obtain⟨d0,d1,d2⟩:=HS2.out.cells
 go_wp2_with fail
 refine(HKnots.out _ HS2.out).mono ?_
 rintro e w3⟨A,c,rfl,hb3,hsl3⟩
 have HS3:=Lib.hid (HS2.out.later hb3)
 have HK3:=Lib.hid hsl3
 have hkc:=hsl3.cap
 have HBX0:=Lib.hid (show BX w3 (w3.alloc (.cells #[.int .i64 10,.slice none 0 0] 30)) w3.heap.size w3.heap.size 30 10 (.slice none 0 0) ((rsN b n m).take 0)from⟨balloc (brefl w3) _,Blk.new w3 _ _,World.ownsRow_nil _ _ _ _,Nat.le_refl _⟩)
 obtain⟨kl,hkl⟩:∃x,(ksN b n).length=x:=⟨_,rfl⟩
 rw[hkl]at HK3 hkc HKl6 ⊢
 have Hkle:=Lib.hid hkl
 have Hrl:=Lib.hid (show(rsN b n m).length=kl by rw[rsN_map,List.length_map,hkl])
 clear hb3 hsl3 hkl HS2 d0 d1 d2 hS HKnots
 clear w1
 go_wp2_with fail
 obtain⟨Y,hY⟩:∃Y,w3.heap.size=Y:=⟨_,rfl⟩
 rw[hY]at HBX0
 have HY:=Lib.hid hY
 rw[hY]
 clear hY
 refine loop_n (λq a W=>a.defers=[]/\∃(i:Nat)(v:Value),i+q=kl/\BX w3 W Y Y 30 10 v ((rsN b n m).take i)/\Fits (none::none::none::none::none::none::none::some (.int .i64 (n:Nat))::some (.int .i64 (m:Nat))::some (.pointer (some ⟨S,0,none⟩))::some (.slice A kl c)::some (.pointer (some ⟨Y,0,none⟩))::some (.int .i64 (i:Nat))::none::none::none::none::none::none::none::none::none::none::none::none::none::none::none::none::none::none::none::none::none::none::none::none::none::none::none::none::none::none::none::none::none::none::none::none::none::none::none::none::none::none::none::none::none::none::none::none::none::none::none::none::none::none::none::none::none::none::none::none::none::none::none::none::none::none::none::none::none::none::none::none::none::none::none::none::none::none::none::none::none::none::none::none::none::none::none::none::none::none::none::none::none::none::none::none::none::none::none::none::none::none::none::none::none::none::none::none::none::none::none::none::none::none::none::none::none::none::none::none::none::none::none::none::none::none::none::none::none::none::none::none::none::none::none::none::none::none::none::none::none::none::none::none::none::none::none::none::none::none::none::none::none::none::none::none::none::none::none::none::none::none::none::none::none::none::none::none::none::none::none::none::none::none::none::none::none::none::none::none::[]) a.tmps.toList) kl ?_ ?_
 ·refine⟨rfl,0,.slice none 0 0,by omega,HBX0.out,?_⟩
  repeat (first|exact fits_nil|refine fits_none ?_|refine fits_some ?_)
 clear HBX0
 intro q a W hI K1 hK
 obtain⟨hds,i,v,hiq,hT,hfit⟩:=hI
 obtain⟨f',hf'⟩:=fits_act hfit
 rw[hds]at hf'
 subst hf'
 clear hfit hds
 simp only[fillP,Nat.reduceAdd]
 have HK:=Lib.hid (@hK)
 have HT:=Lib.hid hT
 clear hK hT
 have hW3:Below w3.heap.size w3 W:=by rw[HY.out];exact HT.out.bel
 by_cases hlt:i<kl
 ·obtain⟨rb,ro,x,rfl,hrb0,hx,g0,g1⟩:=ltCl (HK3.out.later hW3) hlt
  have hrb:rb<Y:=by
   obtain⟨rb',ro',x',hA',hrb',_⟩:=ltCl HK3.out hlt
   cases hA'
   rw[HY.out]at hrb'
   exact hrb'
  have hx2:=Hcol.out x (List.mem_of_getElem? hx)
  have hadd:(rsN b n m).take i++[⟨(x.2:Int),(x.2:Int)+(m:Int)-1⟩]=(rsN b n m).take (i+1):=by
   have hr:(rsN b n m)[i]? =some ⟨(x.2:Int),(x.2:Int)+(m:Int)-1⟩:=by
    rw[rsN_map,List.getElem?_map,hx]
    rfl
   obtain⟨h1,h2⟩:=List.getElem?_eq_some_iff.1 hr
   rw[List.take_succ_eq_append_getElem h1,h2]
  obtain⟨xs,hxs⟩:∃xs,(rsN b n m).take i=xs:=⟨_,rfl⟩
  obtain⟨xy,hxy⟩:∃xy,(rsN b n m).take (i+1)=xy:=⟨_,rfl⟩
  have hxl:xs.length<=10:=by rw[<-hxs,List.length_take];have:=HKl6.out;omega
  rw[hxs]at HT hadd
  rw[hxy]at hadd
  have Hadd:=Lib.hid hadd
  have Hxy:=Lib.hid hxy
  have Hn6':=Hn6.out
  have Hm6':=Hm6.out
  obtain⟨lo,hlo⟩:∃z:Int,(x.2:Int)=z:=⟨_,rfl⟩
  obtain⟨hi,hhi⟩:∃z:Int,(x.2:Int)+(m:Int)-1=z:=⟨_,rfl⟩
  rw[hhi]at Hadd
  rw[hlo]at Hadd g1
  have i1:(i:Int)<(kl:Int):=by omega
  have i2:(0:Int)<=(i:Int):=by omega
  have i3:IntKind.i64.wrap ((i:Int)+1)=((i+1:Nat):Int):=by rw[IntKind.wrap_i64];have:=HKl6.out;omega
  have i4:IntKind.i64.wrap (lo+(m:Int))=lo+(m:Int):=by rw[IntKind.wrap_i64];omega
  have i5:IntKind.i64.wrap (lo+(m:Int)-1)=hi:=by rw[IntKind.wrap_i64];omega
  have b0:=HT.out.bp.cell 0
  have b1:=HT.out.bp.cell 1
  have b2:=HT.out.bp.lt
  have hne:=HT.out.bp.notRow HT.out.own (by decide)
  have hrow:∀r,v.ownBlock=some r->r<W.heap.size:=λr hr=>own_lt HT.out.own r hr
  have hrbn:v.ownBlock≠some rb:=λe=>by have:=own_base HT.out.own rb e;omega
  have Hrow:=Lib.hid hrow
  have Hiq:=Lib.hid (show i+q=kl/\i<kl from⟨hiq,hlt⟩)
  have HYW:=Lib.hid (show Y<=W.heap.size from by have:=hW3.size;rw[HY.out]at this;exact this)
  clear hx hx2 hadd hxs hxy hrow hlo hhi Hn6' Hm6' hiq hlt hW3
  go_wp2_with fail
  refine dagRow 19 17 v.ownBlock (by kernel_rfl) (by kernel_rfl) (.is ?_::.is ?_::.is ?_::.is ?_::.is ?_::.is ?_::.is ?_::.is ?_::.is ?_::.is ?_::.is ?_::.is ?_::.is ?_::.is ?_::.is ?_::.is ?_::.like (OneR W.heap.size lo hi)::.like (RowR Y xy)::.is ?_::[]) rfl ?st1 ?gd1 ?stb1 ?ob1
  case st1=>repeat (first|exact stab_nil|refine stab_is ?_|refine stab_like (OneR.stab _ _) ?_|refine stab_like (RowR.stab _) ?_)
  case gd1=>intro o ho;cases ho;rfl
  case stb1=>repeat (first|exact stabT_nil|refine stabT_is ?_|refine stabT_like (λ_ _ _ h1 h2=>h2.grown h1.2 Hrow.out) ?_)
  case ob1=>
  intro env V hG
  have HK3':=Lib.hid (HT.out.bp.grown hG hne)
  have e0:=HK3'.out.cell 0
  have e1:=HK3'.out.cell 1
  have e2:=HK3'.out.lt
  have hrbW:rb<W.heap.size:=by have:=HYW.out;omega
  have h0:=(World.cell?_of_block (a:=⟨rb,ro+i*2,none⟩) (hG.block rb hrbW (Ne.symm hrbn))).trans g0
  have h1:=(World.cell?_of_block (a:=⟨rb,ro+i*2+1,none⟩) (hG.block rb hrbW (Ne.symm hrbn))).trans g1
  have h2:=Nat.lt_of_lt_of_le hrbW hG.size
  have HG:=Lib.hid hG
  iterate 16 (refine oblsA_is (show _≠(17:Nat)by decide) ?_ ?_;unfold doesAt;go_simp;(try go_bits);(first|(refine⟨brefl _,?_⟩;rfl)|rfl);intro K hK;go_simp;refine hK _ ?_;clear hK K)
  refine oblsA_like (show _≠(17:Nat)by decide) (λ_=>?_) ?_
  ·unfold doesAt
   go_simp
   have hbn:=Blk.new V 34 #[.int .i64 lo,.int .i64 hi]
   exact⟨balloc (brefl V) _,V.heap.size,rfl,HG.out.size,hbn.lt,hbn.cell 0,hbn.cell 1⟩
  intro K hK
  go_simp
  refine hK _ ?_
  clear hK K
  refine oblsA_app rfl (λhl hp=>?_) ?_
  ·obtain⟨g,hE,hg1,hg2,hg3,hg4⟩:OneR W.heap.size lo hi (env 16) V:=hl ⟨16,.data⟩ (by simp) rfl (.inl rfl)
   refine app_of_run rfl (.tmp 52) (.tmp 67) 28 rfl rfl hE ?_
   exact run_app_rgB _ Hadd.out (own_later HT.out.own hp) (one_news (x:=⟨lo,hi⟩) hg3 hg4) (by omega) (by have:=hp.size;have:=HYW.out;omega)
  intro K hK
  go_simp
  refine hK _ ?_
  clear hK K
  (refine oblsA_is (show _≠(17:Nat)by decide) ?_ ?_;unfold doesAt;go_simp;(try go_bits);(first|(refine⟨brefl _,?_⟩;rfl)|rfl);intro K hK;go_simp;refine hK _ ?_;clear hK K)
  refine oblsA_last (λhok=>?_)
  have hrw:RowR Y xy (env 17) V:=hok 17 _ rfl (.inl rfl)
  obtain⟨v',hv'⟩:∃v',env 17=v':=⟨_,rfl⟩
  rw[hv']at hrw ⊢
  have hl1:xy.length=xs.length+1:=by rw[<-Hadd.out];simp
  have hrw':=hrw
  unfold RowR at hrw'
  rw[hl1]at hrw'
  have hrw2:=hrw'
  rw[<-Hadd.out,List.flatMap_append]at hrw'
  obtain⟨gg,cap,rfl⟩:=own_succ hrw2
  have HK4:=Lib.hid (HT.out.grown (by decide) (x:=⟨lo,hi⟩) HG.out (by simpa using hrw'))
  rw[Hadd.out]at HK4
  have f1:=HK3'.out.frozen 1
  clear hrw hrw' hrw2 hv' hok hG h0 h1 h2 g0 g1 b0 b1 b2 hne hrbn hrb hrb0 hrbW HK3' HG HT hl1
  unfold doesAt
  go_simp
  go_wp2
  obtain⟨j1,j2⟩:=Hiq.out
  refine HK.out _ _ (q-1) (by omega) ⟨rfl,i+1,_,by omega,by rw[Hxy.out];exact HK4.out,?_⟩
  repeat (first|exact fits_nil|refine fits_none ?_|refine fits_some ?_)
 ·have hie:i=kl:=by omega
  subst hie
  have htk:(rsN b n m).take i=rsN b n m:=List.take_of_length_le (by have:=Hrl.out;omega)
  rw[htk]at HT
  obtain⟨A2,c2,rfl,hsl⟩:=HT.out.sl
  have hyb:=HT.out.bp
  rw[Hrl.out]at hsl hyb
  have HYW:=Lib.hid (show YardW W Y A2 i c2 (rsN b n m)from⟨hyb,hsl⟩)
  have HSW:=Lib.hid (HS3.out.later hW3)
  have hrs:=rs_ok (b:=b) Hn6.out.2 Hm6.out
  have hy0:=yard_of (L:=10) (by omega) hrs
  have hfew:=few_is (b:=b) Hn6.out.2 Hm6.out
  have hfv:fewV 10 (rsN b n m)=((fewN b n m:Nat):Int):=by
   unfold fewV
   rw[if_pos hy0]
   exact hfew
  have hho:=fill_hours (fill_is b n m) hrs (by omega)
  have HSt:=Lib.hid (λW(h:YardW W Y A2 i c2 (rsN b n m))=>by
   have h1:=fewest_any 10 A2 i c2 (rsN b n m) W h.sl
   rw[hy0,hfv]at h1
   exact h1)
  have HHo:=Lib.hid (λW(h:YardW W Y A2 i c2 (rsN b n m))=>hours_is W h Hrl.out hy0)
  have HCh:=Lib.hid (λW(h:YardW W Y A2 i c2 (rsN b n m))g(hg:Sl 1 encI W W.heap.size (some ⟨g,0,none⟩) i i (hoursN b n m))=>by
   have h1:=refHours_any 10 A2 i c2 (rsN b n m) (some ⟨g,0,none⟩) i i (hoursN b n m) W h.sl hg
   have e1:hoursE 10 (rsN b n m) (hoursN b n m)=0:=hho.1
   have e2:hoursV 10 (rsN b n m) (hoursN b n m)=((fewN b n m:Nat):Int):=hho.2.trans hfew
   rw[e1,e2]at h1
   exact h1)
  have HLen:=Lib.hid HLaw.out.len
  have HLie:=Lib.hid HLaw.out.lie
  have HHas:=Lib.hid HLaw.out.has
  have HHour:=Lib.hid HLaw.out.hour
  have hpl:=piecesH_len n m (hoursN b n m) []
  have hhl:(hoursN b n m).length=i:=by unfold hoursN;rw[List.length_map,List.length_range,Hrl.out]
  obtain⟨f,hf⟩:∃f,fewN b n m=f:=⟨_,rfl⟩
  obtain⟨hs,hhs⟩:∃h,hoursN b n m=h:=⟨_,rfl⟩
  rw[hf]at HFew HAlone HSt HCh HLen
  rw[hhs]at HHo HCh HLen HLie HHas HHour hpl hhl
  have Hpl:=Lib.hid (show hs.length=i/\(piecesH n m hs []).length<=6 from⟨hhl,by simp at hpl;have:=HKl6.out;omega⟩)
  clear htk hsl hyb hrs hy0 hfew hfv hho hf hhs hpl hhl hiq hlt HT HK HK3 HS3 Hrl Hkle HLaw
  have hcap2:=HYW.out.sl.cap
  have hbel3:Below w3.heap.size w3 W:=hW3
  clear hW3 hbel3
  obtain⟨d0,d1,d2⟩:=HSW.out.cells
  go_wp2_with fail
  refine(HFew.out W HSW.out).mono ?_
  rintro e w5⟨rfl,hb5⟩
  have HSW5:=Lib.hid (HSW.out.later hb5)
  have HYW5:=Lib.hid (HYW.out.later hb5)
  clear hb5 HSW HYW d0 d1 d2 HFew
  obtain⟨y0,y1,y2⟩:=HYW5.out.cells
  go_wp2_with fail
  refine(HSt.out w5 HYW5.out).mono ?_
  rintro e w6⟨rfl,hb6⟩
  have HSW6:=Lib.hid (HSW5.out.later hb6)
  have HYW6:=Lib.hid (HYW5.out.later hb6)
  clear hb6 HSW5 HYW5 y0 y1 y2 HSt
  obtain⟨y0,y1,y2⟩:=HYW6.out.cells
  go_wp2_with fail
  refine(HHo.out w6 HYW6.out).mono ?_
  rintro e w7⟨g,rfl,hb7,hsl7⟩
  have HSW7:=Lib.hid (HSW6.out.later hb7)
  have HYW7:=Lib.hid (HYW6.out.later hb7)
  have HH7:=Lib.hid hsl7
  clear hb7 hsl7 HSW6 HYW6 y0 y1 y2 HHo
  obtain⟨d0,d1,d2⟩:=HSW7.out.cells
  go_wp2_with fail
  refine(HAlone.out w7 HSW7.out).mono ?_
  rintro e w8⟨A4,c4,rfl,hb8⟩
  have HSW8:=Lib.hid (HSW7.out.later hb8)
  have HYW8:=Lib.hid (HYW7.out.later hb8)
  have HH8:=Lib.hid (HH7.out.later hb8)
  clear hb8 HSW7 HYW7 HH7 d0 d1 d2 HAlone
  obtain⟨y0,y1,y2⟩:=HYW8.out.cells
  go_wp2_with fail
  refine(HCh.out w8 HYW8.out g HH8.out).mono ?_
  rintro e w9⟨rfl,hb9⟩
  have HSW9:=Lib.hid (HSW8.out.later hb9)
  have HH9:=Lib.hid (HH8.out.later hb9)
  clear hb9 HSW8 HYW8 HH8 y0 y1 y2 HCh
  go_wp2_with fail
  obtain⟨B9,hB9⟩:∃B,w9.heap.size=B:=⟨_,rfl⟩
  have HB9:=Lib.hid hB9
  have hO9:w9.ownsRow B9 49 4 (.slice none 0 0) ([]:List Pc).length (([]:List Pc).flatMap encPc):=World.ownsRow_nil _ _ _ _
  clear hB9
  refine loop_n (λq a W9=>a.defers=[]/\∃(j:Nat)(v:Value)(ps:List Pc),j+q=i/\ps.length<=j/\piecesH n m (hs.drop j) ps=piecesH n m hs []/\Below w9.heap.size w9 W9/\W9.ownsRow B9 49 4 v ps.length (ps.flatMap encPc)/\Fits (none::none::none::none::none::none::none::some (.int .i64 (n:Nat))::some (.int .i64 (m:Nat))::some (.pointer (some ⟨S,0,none⟩))::none::none::none::some (.int .i64 (f:Nat))::none::none::none::some (.slice (some ⟨g,0,none⟩) i i)::none::none::none::none::none::some (v)::some (.int .i64 (j:Nat))::none::none::none::none::none::none::none::none::none::none::none::none::none::none::none::none::none::none::none::none::none::none::none::none::none::none::none::none::none::none::none::none::none::none::none::none::none::none::none::none::none::none::none::none::none::none::none::none::none::none::none::none::none::none::none::none::none::none::none::none::none::none::none::none::none::none::none::none::none::none::none::none::none::none::none::none::none::none::none::none::none::none::none::none::none::none::none::none::none::none::none::none::none::none::none::none::none::none::none::none::none::none::none::none::none::none::none::none::none::none::none::none::none::none::none::none::none::none::none::none::none::none::none::none::none::none::none::none::none::none::none::none::none::none::none::none::none::none::none::none::none::none::none::none::none::none::none::none::none::none::none::none::none::none::none::none::none::none::none::none::none::none::none::none::none::none::none::none::[]) a.tmps.toList) i ?_ ?_
  ·refine⟨rfl,0,.slice none 0 0,[],by omega,by simp,by rw[List.drop_zero],brefl w9,hO9,?_⟩
   repeat (first|exact fits_nil|refine fits_none ?_|refine fits_some ?_)
  clear hO9
  intro q2 a2 W9 hI2 K2 hK2
  obtain⟨hds,j,v,ps,hjq,hpj,hfin,hW9,hown,hfit⟩:=hI2
  obtain⟨f',hf'⟩:=fits_act hfit
  rw[hds]at hf'
  subst hf'
  clear hfit hds
  simp only[fillP,Nat.reduceAdd]
  have HK2:=Lib.hid (@hK2)
  have HW9:=Lib.hid hW9
  have HOwn:=Lib.hid hown
  clear hK2 hW9 hown
  by_cases hlt:j<i
  ·obtain⟨b',o',x,hA',hbb,hx,x0⟩:=(HH9.out.later HW9.out).ltI hlt
   cases hA'
   rw[Nat.zero_add]at x0
   have hxh:=HHour.out x (List.mem_of_getElem? hx)
   have hdr:hs.drop j=x::hs.drop (j+1):=by
    obtain⟨h1,h2⟩:=List.getElem?_eq_some_iff.1 hx
    rw[List.drop_eq_getElem_cons h1,h2]
   rw[hdr]at hfin
   obtain⟨hx0,hxn,hxlr⟩:=hxh
   have Hn6':=Hn6.out
   have Hm6':=Hm6.out
   have hxl0:0<=leftH m x:=by unfold leftH;omega
   have hxl1:leftH m x<=x:=by unfold leftH;omega
   have hpc:encPc (pieceH n m x)=[.int .i64 0,.int .i64 (leftH m x),.int .i64 1,.int .i64 (rightH n x-leftH m x+1)]:=by
    unfold encPc pieceH
    simp only
    rw[Int.toNat_of_nonneg hxl0,Int.toNat_of_nonneg (by omega)]
    rfl
   have hr6:rightH n x<=6:=by unfold rightH;omega
   have i1:(j:Int)<(i:Int):=by omega
   have i2:(0:Int)<=(j:Int):=by omega
   have i3:IntKind.i64.wrap ((j:Int)+1)=((j+1:Nat):Int):=by rw[IntKind.wrap_i64];have:=HKl6.out;omega
   have s1:IntKind.i64.wrap (x-(m:Int))=x-(m:Int):=by rw[IntKind.wrap_i64];omega
   have s2:IntKind.i64.wrap (x-(m:Int)+1)=x-(m:Int)+1:=by rw[IntKind.wrap_i64];omega
   have s3:IntKind.i64.wrap ((n:Int)-1)=(n:Int)-1:=by rw[IntKind.wrap_i64];omega
   have s4:IntKind.i64.wrap (rightH n x-leftH m x)=rightH n x-leftH m x:=by rw[IntKind.wrap_i64];omega
   have s5:IntKind.i64.wrap (rightH n x-leftH m x+1)=rightH n x-leftH m x+1:=by rw[IntKind.wrap_i64];omega
   have Hjq:=Lib.hid (show j+q2=i/\j<i/\ps.length<=j from⟨hjq,hlt,hpj⟩)
   clear hx hdr hjq hpj hxn
   go_wp2_with fail
   refine dag 17 (by kernel_rfl) (by kernel_rfl) (.is ?_::.is ?_::.is ?_::.is ?_::.is ?_::.is ?_::.is ?_::.is ?_::.is ?_::.is ?_::.is ?_::.is ?_::.is ?_::.is ?_::.is ?_::.is ?_::.is ?_::[]) rfl ?st3 ?ob3
   case st3=>repeat (first|exact stab_nil|refine stab_is ?_)
   case ob3=>
   intro env V hG
   have HG:=Lib.hid hG
   have x1:=(hG.cell (p:=⟨g,j,none⟩) hbb).trans x0
   have x2:=Nat.lt_of_lt_of_le hbb hG.size
   iterate 17 (refine obls_is ?_ ?_;unfold doesAt;go_simp;(try go_bits);(first|(refine⟨brefl _,?_⟩;rfl)|rfl);intro K hK;go_simp;refine hK _ ?_;clear hK K)
   refine obls_nil (λhok=>?_)
   clear hok
   rw[show max 0 (x-(m:Int)+1)=leftH m x from rfl,show min ((n:Int)-1) x=rightH n x from rfl]
   obtain⟨pc,hpcn⟩:∃p,pieceH n m x=p:=⟨_,rfl⟩
   have Hpn:=Lib.hid hpcn
   rw[hpcn]at hpc
   obtain⟨pt,plf,pr,pcc⟩:=pc
   simp only[encPc,List.cons.injEq,Value.int.injEq,true_and,and_true]at hpc
   obtain⟨q1,q2',q3,q4⟩:=hpc
   rw[<-q2']at s4 s5 q4 ⊢
   have s6:IntKind.i64.wrap (rightH n x-(plf:Int)+1)=(pcc:Int):=s5.trans q4.symm
   clear s5 q4
   obtain⟨rt,hrt⟩:∃z,rightH n x=z:=⟨_,rfl⟩
   rw[hrt]at s4 s6 ⊢
   obtain rfl:pt=0:=by omega
   obtain rfl:pr=1:=by omega
   have HbV:=Lib.hid (Below.later HW9.out HG.out)
   have HOV:=Lib.hid (own_later HOwn.out HG.out)
   clear hG x0 x1 x2 hbb hx0 hxlr Hn6' Hm6' hxl0 hxl1 hr6 hpcn q1 q2' q3 s1 s2 s3 hrt HG HOwn HW9
   go_wp2_with fail
   obtain⟨A5,c5,rfl,hsl5⟩:=own_slG (k:=4) (enc:=encPc) (λ_=>rfl) HOV.out rfl
   obtain⟨pn,hpn⟩:∃x,ps.length=x:=⟨_,rfl⟩
   have Hpnl:=Lib.hid hpn
   have HW0:=Lib.hid (Below.later HbV.out (balloc (brefl V) (.cells #[.int .i64 0,.int .i64 (plf:Nat),.int .i64 1,.int .i64 (pcc:Nat)] 49)))
   have HP0:=Lib.hid (Blk.new V 49 #[.int .i64 0,.int .i64 (plf:Nat),.int .i64 1,.int .i64 (pcc:Nat)])
   have HO0:=Lib.hid (own_later HOV.out (balloc (brefl V) (.cells #[.int .i64 0,.int .i64 (plf:Nat),.int .i64 1,.int .i64 (pcc:Nat)] 49)))
   have HSl0:=Lib.hid (hsl5.later (balloc (brefl V) (.cells #[.int .i64 0,.int .i64 (plf:Nat),.int .i64 1,.int .i64 (pcc:Nat)] 49)))
   have hcap5:=hsl5.cap
   rw[hpn]at HO0 HSl0 hcap5 ⊢
   obtain⟨P,hP⟩:∃P,V.heap.size=P:=⟨_,rfl⟩
   rw[hP]at HP0 ⊢
   clear hpn hsl5 HOV HbV s4 s6 hP
   generalize V.alloc (.cells #[.int .i64 0,.int .i64 (plf:Nat),.int .i64 1,.int .i64 (pcc:Nat)] 49)=W0 at HW0 HP0 HO0 HSl0 ⊢
   clear V env
   refine loop_n (λq3 a3 W'=>a3.defers=[]/\Below W0.heap.size W0 W'/\∃(k:Nat)(ag:Bool),k+q3=pn/\ag=(ps.take k).any (λq=>eqP q ⟨0,plf,1,pcc⟩)/\Fits (none::none::none::none::none::none::none::some (.int .i64 (n:Nat))::some (.int .i64 (m:Nat))::some (.pointer (some ⟨S,0,none⟩))::none::none::none::some (.int .i64 (f:Nat))::none::none::none::some (.slice (some ⟨g,0,none⟩) i i)::none::none::none::none::none::some (.slice A5 pn c5)::some (.int .i64 (j:Nat))::none::none::some (.pointer (some ⟨P,0,none⟩))::some (.bool ag)::some (.int .i64 (k:Nat))::none::none::none::none::none::none::none::none::none::none::none::none::none::none::none::none::none::none::none::none::none::none::none::none::none::none::none::none::none::none::none::none::none::none::none::none::none::none::none::none::none::none::none::none::none::none::none::none::none::none::none::none::none::none::none::none::none::none::none::none::none::none::none::none::none::none::none::none::none::none::none::none::none::none::none::none::none::none::none::none::none::none::none::none::none::none::none::none::none::none::none::none::none::none::none::none::none::none::none::none::none::none::none::none::none::none::none::none::none::none::none::none::none::none::none::none::none::none::none::none::none::none::none::none::none::none::none::none::none::none::none::none::none::none::none::none::none::none::none::none::none::none::none::none::none::none::none::none::none::none::none::none::none::none::none::none::none::none::none::none::none::none::none::[]) a3.tmps.toList) pn ?_ ?_
   ·refine⟨rfl,brefl W0,0,false,by omega,rfl,?_⟩
    repeat (first|exact fits_nil|refine fits_none ?_|refine fits_some ?_)
   intro q3 a3 W' hI3 K3 hK3
   obtain⟨hds,hW0',k,ag,hkq,hag,hfit⟩:=hI3
   obtain⟨f',hf'⟩:=fits_act hfit
   rw[hds]at hf'
   subst hf'
   clear hfit hds
   simp only[fillP,Nat.reduceAdd]
   have HK3:=Lib.hid (@hK3)
   have HWW:=Lib.hid hW0'
   clear hK3 hW0'
   by_cases hkl:k<pn
   ·obtain⟨b5,o5,y,rfl,hbb5,hy,z0,z1,z2,z3⟩:=ltPc (HSl0.out.later HWW.out) hkl
    have htk:(ps.take (k+1)).any (λq=>eqP q ⟨0,plf,1,pcc⟩)=(ag||eqP y ⟨0,plf,1,pcc⟩):=by
     obtain⟨h1,h2⟩:=List.getElem?_eq_some_iff.1 hy
     rw[List.take_succ_eq_append_getElem h1,h2,List.any_append,<-hag]
     simp
    have Htk:=Lib.hid htk
    have i1':(k:Int)<(pn:Int):=by omega
    have i2':(0:Int)<=(k:Int):=by omega
    have hk6:k<=10:=by have:=Hjq.out;have:=Hpnl.out;have:=HKl6.out;omega
    have i3':IntKind.i64.wrap ((k:Int)+1)=((k+1:Nat):Int):=by rw[IntKind.wrap_i64];omega
    have Hkq:=Lib.hid (show k+q3=pn/\k<pn from⟨hkq,hkl⟩)
    obtain⟨e,he⟩:∃e,eqP y ⟨0,plf,1,pcc⟩=e:=⟨_,rfl⟩
    rw[he]at Htk
    have He:=Lib.hid he
    clear hy htk hag hkq hk6 he
    obtain⟨yt,yl,yr,yc⟩:=y
    simp only at z0 z1 z2 z3
    go_wp2_with fail
    cases ag with
    |true=>
     refine dag 10 (by kernel_rfl) (by kernel_rfl) (.is ?_::.is ?_::.is ?_::.is ?_::.is ?_::.is ?_::.is ?_::.is ?_::.is ?_::.is ?_::[]) rfl ?st5 ?ob5
     case st5=>repeat (first|exact stab_nil|refine stab_is ?_)
     case ob5=>
     intro env V hG
     have HG:=Lib.hid hG
     iterate 10 (refine obls_is ?_ ?_;unfold doesAt;go_simp;(try go_bits);(first|(refine⟨brefl _,?_⟩;rfl)|rfl);intro K hK;go_simp;refine hK _ ?_;clear hK K)
     refine obls_nil (λhok=>?_)
     clear hok hG z0 z1 z2 z3
     go_wp2_with fail
     obtain⟨j1,j2⟩:=Hkq.out
     refine HK3.out _ _ (q3-1) (by omega) ⟨rfl,Below.later HWW.out HG.out,k+1,true,by omega,by rw[Htk.out,Bool.true_or],?_⟩
     repeat (first|exact fits_nil|refine fits_none ?_|refine fits_some ?_)
    |false=>
     refine dag 10 (by kernel_rfl) (by kernel_rfl) (.is ?_::.is ?_::.is ?_::.is ?_::.is ?_::.is ?_::.is ?_::.is (.bool e)::.is (.bool e)::.is (.bool e)::[]) rfl ?st6 ?ob6
     case st6=>repeat (first|exact stab_nil|refine stab_is ?_)
     case ob6=>
     intro env V hG
     have HG:=Lib.hid hG
     have HPV:=Lib.hid (HP0.out.later (Below.later HWW.out hG))
     have p0:=HPV.out.cell 0
     have p1:=HPV.out.cell 1
     have p2:=HPV.out.cell 2
     have p3:=HPV.out.cell 3
     have p4:=HPV.out.lt
     have u0:=(hG.cell (p:=⟨b5,o5+k*4,none⟩) hbb5).trans z0
     have u1:=(hG.cell (p:=⟨b5,o5+k*4+1,none⟩) hbb5).trans z1
     have u2:=(hG.cell (p:=⟨b5,o5+k*4+2,none⟩) hbb5).trans z2
     have u3:=(hG.cell (p:=⟨b5,o5+k*4+3,none⟩) hbb5).trans z3
     have u4:=Nat.lt_of_lt_of_le hbb5 hG.size
     iterate 7 (refine obls_is ?_ ?_;unfold doesAt;go_simp;(try go_bits);(first|(refine⟨brefl _,?_⟩;rfl)|rfl);intro K hK;go_simp;refine hK _ ?_;clear hK K)
     refine obls_is ?_ ?_
     ·unfold doesAt
      go_simp
      rw[eq_ifs He.out]
      exact⟨brefl _,rfl⟩
     intro K hK
     go_simp
     refine hK _ ?_
     clear hK K
     iterate 2 (refine obls_is ?_ ?_;unfold doesAt;go_simp;(first|exact brefl _|exact⟨brefl _,rfl⟩);intro K hK;go_simp;refine hK _ ?_;clear hK K)
     refine obls_nil (λhok=>?_)
     clear hok hG z0 z1 z2 z3 u0 u1 u2 u3 u4 p0 p1 p2 p3 p4 HPV
     go_wp2_with fail
     obtain⟨j1,j2⟩:=Hkq.out
     refine HK3.out _ _ (q3-1) (by omega) ⟨rfl,Below.later HWW.out HG.out,k+1,e,by omega,by rw[Htk.out,Bool.false_or],?_⟩
     repeat (first|exact fits_nil|refine fits_none ?_|refine fits_some ?_)
   ·have hkp:k=pn:=by omega
    subst hkp
    rw[List.take_of_length_le (by have:=Hpnl.out;omega)]at hag
    have Hag:=Lib.hid hag
    have HPV:=Lib.hid (HP0.out.later HWW.out)
    have HB9':=Lib.hid (Below.later HW0.out HWW.out)
    have HO9':=Lib.hid (own_later HO0.out HWW.out)
    have p0:=HPV.out.cell 0
    have p1:=HPV.out.cell 1
    have p2:=HPV.out.cell 2
    have p3:=HPV.out.cell 3
    have p4:=HPV.out.lt
    clear hag hkq hkl HK3 HW0 HWW HP0 HO0 HSl0
    cases ag with
    |true=>
     have hfn:=hfin
     rw[piecesH_yes (by rw[Hpn.out];exact Hag.out.symm)]at hfn
     have Hfn:=Lib.hid hfn
     have hln:=Hpnl.out
     have Hln:=Lib.hid hln
     clear hfn hfin
     go_wp2_with fail
     obtain⟨j1,j2,j3⟩:=Hjq.out
     refine HK2.out _ _ (q2-1) (by omega) ⟨rfl,j+1,.slice A5 k c5,ps,by omega,by omega,Hfn.out,HB9'.out,by rw[Hpnl.out];exact HO9'.out,?_⟩
     repeat (first|exact fits_nil|refine fits_none ?_|refine fits_some ?_)
    |false=>
     have hfn:=hfin
     rw[piecesH_no (by rw[Hpn.out];exact Hag.out.symm),Hpn.out]at hfn
     have Hfn:=Lib.hid hfn
     clear hfn hfin
     obtain⟨i0,hi0,hz0,hz1,hz2⟩:=info_parts info_piece
     have HO10:=Lib.hid (own_later HO9'.out (balloc (brefl W') (.cells #[.int .i64 0,.int .i64 (plf:Nat),.int .i64 1,.int .i64 (pcc:Nat)] 49)))
     have hk10:k<=10:=by have:=Hjq.out;have:=Hpnl.out;have:=HKl6.out;omega
     have hBW:B9<=W'.heap.size:=by have:=HB9'.out.size;rw[HB9.out]at this;exact this
     go_wp2_with (at_builtin;refine wpList_append_own _ rfl _ _ 47 rfl B9 49 i0 (.agg #[.int .i64 0,.int .i64 0,.int .i64 0,.int .i64 0]) 4 32 und_pieces hi0 hz0 hz1 hz2 rfl (by decide) (.slice A5 k c5) k _ rfl HO10.out ⟨W'.heap.size,0,none⟩ 1 1 [.int .i64 0,.int .i64 (plf:Nat),.int .i64 1,.int .i64 (pcc:Nat)] rfl rfl (four_new _ _ _ _ _ _) (by simp[Value.oneCell']) (by simp only[maxLen];omega) (by omega) (by simp;omega) ?_;intro v' W5 hown' hgr _;have HO6:=Lib.hid hown';have HB6:=Lib.hid (below_row (Below.later HB9'.out (balloc (brefl W') _)) hgr (λg hg=>by have:=own_base HO10.out g hg;rw[HB9.out];exact this) (by rw[HB9.out];simp;omega));clear hown' hgr)
     obtain⟨j1,j2,j3⟩:=Hjq.out
     have hpk:=Hpnl.out
     refine HK2.out _ _ (q2-1) (by omega) ⟨rfl,j+1,v',ps++[⟨0,plf,1,pcc⟩],by omega,by simp;omega,Hfn.out,HB6.out,?_,?_⟩
     ·have h8:=HO6.out
      rw[List.length_append,List.flatMap_append,hpk]
      simpa[encPc]using h8
     ·repeat (first|exact fits_nil|refine fits_none ?_|refine fits_some ?_)
  ·have hji:j=i:=by omega
   subst hji
   have hln:=Hpl.out
   rw[List.drop_eq_nil_of_le (by omega)]at hfin
   have hps:ps=piecesH n m hs []:=hfin
   obtain⟨A5,c5,rfl,hsl5⟩:=own_slG (k:=4) (enc:=encPc) (λ_=>rfl) HOwn.out rfl
   have HSW10:=Lib.hid (HSW9.out.later HW9.out)
   have HPl:=Lib.hid hsl5
   have hlf:ps.length=f:=by rw[hps];exact HLen.out
   have hl10:f<=10:=by rw[<-hlf,hps];omega
   have HCk:=Lib.hid (λW(h:SheetW w W k S row m)(hp:Sl 4 encPc W W.heap.size A5 f c5 ps)=>CheckPatches_ok (some ⟨k,0,none⟩) 1 1 m n [row] A5 f c5 ps W h.sl Hok.out Hkl.out H35.out hp hl10 (λq hq=>by
    rw[hps]at hq
    have:=HLie.out q hq
    exact⟨pcE_ok Hn6.out.2 this,this⟩) (λx hx=>by
    rw[HKn.out]at hx
    rw[hps]
    exact HHas.out x hx))
   rw[hlf]at HPl ⊢
   clear hfin hps hln hsl5 hlf hl10 hpj hjq hlt HOwn HSW9 HK2
   obtain⟨d0,d1,d2⟩:=HSW10.out.cells
   go_wp2_with fail
   refine(HCk.out W9 HSW10.out HPl.out).mono ?_
   rintro e w11⟨cells,rfl,hb11⟩
   have HB11:=Lib.hid (Below.later HSW10.out.bel hb11)
   clear hb11 d0 d1 d2 HSW10 HCk HPl
   go_wp2_with fail
   refine(H4.out _).mono ?_
   rintro e w12⟨rfl,hb12⟩
   have HB12:=Lib.hid (Below.later HB11.out hb12)
   clear hb12
   go_wp2_with fail
   go_ret
   exact⟨rfl,HB12.out⟩
end Go.Proofs.YtifehdoghfnhoaaGreatDoor.Pa
