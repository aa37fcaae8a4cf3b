/- TopSteamedPatch: what the walk needs: the patches that end where loads are steamed, one more log, patches that are compared. -/
import Derived.Test.YtifehdoghfnhoaaGreatDoorZPbN
import Derived.Test.YtifehdoghfnhoaaGreatDoorZPdA
import Derived.Test.YtifehdoghfnhoaaGreatDoorZTSRefG
namespace Go.Proofs.YtifehdoghfnhoaaGreatDoor.Pa
open Go.RowKit Go.Shelf Go.PlainAid Go.Proofs.YtifehdoghfnhoaaGreatDoor.C
theorem info_rcell:(Tryz.prog.info? 32).map (λi=>(i.zero,i.size,i.bytes))=some (some (.agg #[.int .i64 0,.int .i64 0]),2,16):=by kernel_rfl
theorem und_rcells:Tryz.prog.underlying 26=some (.slice 32):=by kernel_rfl
structure KW(w W:World)(RA:Option Addr)(rn rc most:Nat)(rows:List ByteArray)(v:Value)(ks:List (Nat×Nat)):Prop where
 bel:Below w.heap.size w W
 b0:Blk W w.heap.size 24 #[.slice RA rn rc,.int .i64 (most:Nat)]
 sl:Sl 1 encB8 w w.heap.size RA rn rc rows
 own:W.ownsRow (w.heap.size+1) 32 2 v ks.length (ks.flatMap encCl)
section
variable{w W W':World}{RA:Option Addr}{rn rc most:Nat}{rows:List ByteArray}{v v':Value}{ks:List (Nat×Nat)}
theorem KW.later(h:KW w W RA rn rc most rows v ks)(hb:Below W.heap.size W W'):KW w W' RA rn rc most rows v ks:=⟨Below.later h.bel hb,h.b0.later hb,h.sl,own_later h.own hb⟩
theorem KW.cells(h:KW w W RA rn rc most rows v ks):W.cell? ⟨w.heap.size,0,none⟩=some (.slice RA rn rc)/\W.cell? ⟨w.heap.size,1,none⟩=some (.int .i64 (most:Nat))/\w.heap.size<W.heap.size:=⟨h.b0.cell 0,h.b0.cell 1,h.b0.lt⟩
theorem KW.app(h:KW w W RA rn rc most rows v ks){x:Nat×Nat}(hg:W.grownBy W' v.ownBlock)(ho:W'.ownsRow (w.heap.size+1) 32 2 v' (ks.length+1) (ks.flatMap encCl++encCl x)):KW w W' RA rn rc most rows v' (ks++[x]):=by
 have hb:=own_base h.own
 refine⟨below_row h.bel hg (λg hg'=>by have:=hb g hg';omega) h.bel.size,h.b0.grown hg (λe=>by have:=hb _ e;omega),h.sl,?_⟩
 simpa[encCl]using ho
end
set_option maxRecDepth 100000 in
set_option maxHeartbeats 8000000 in
theorem knots_ok(RA:Option Addr)(rn rc most cn:Nat)(rows:List ByteArray)(w:World)(hs:Sl 1 encB8 w w.heap.size RA rn rc rows)(hr6:rn<=6)(hsz:∀s∈rows,s.size=cn)(hc6:cn<=6):
 Calls Tryz.prog 6 #[.agg #[.slice RA rn rc,.int .i64 (most:Nat)]] w λe w'=>∃A c,e=.returned (.slice A (knN (atB rows 111) cn rn 0).length c)/\Below w.heap.size w w'/\Sl 2 encCl w' w'.heap.size A (knN (atB rows 111) cn rn 0).length c (knN (atB rows 111) cn rn 0):=by
 have HK0:=Lib.hid (show KW w (w.alloc (.cells #[.slice RA rn rc,.int .i64 (most:Nat)] 24)) RA rn rc most rows (.slice none 0 0) (knN (atB rows 111) cn 0 0)from⟨balloc (brefl w) _,Blk.new w _ _,hs,World.ownsRow_nil _ _ _ _⟩)
 have Hsz:=Lib.hid hsz
 have H6:=Lib.hid (show rn<=6/\cn<=6 from⟨hr6,hc6⟩)
 have hrl:=hs.len
 have hrc:=hs.cap
 clear hs hsz hr6 hc6
 go_enter Tryz.func6,Tryz.ntmps6
 go_wp2_with fail
 refine loop_n (λq a W=>a.defers=[]/\∃(i:Nat)(v:Value),i+q=rn/\KW w W RA rn rc most rows v (knN (atB rows 111) cn i 0)/\Fits (none::some (.pointer (some ⟨w.heap.size,0,none⟩))::none::some (v)::some (.int .i64 (i:Nat))::none::none::none::none::none::none::none::none::none::none::none::none::none::none::none::none::none::none::none::none::none::none::none::none::none::none::none::none::none::none::none::none::none::[]) a.tmps.toList) rn ?_ ?_
 ·refine⟨rfl,0,.slice none 0 0,by omega,HK0.out,?_⟩
  repeat (first|exact fits_nil|refine fits_none ?_|refine fits_some ?_)
 clear HK0
 intro q a W hI K1 hK
 obtain⟨hds,i,v,hiq,hW,hfit⟩:=hI
 obtain⟨f',hf'⟩:=fits_act hfit
 rw[hds]at hf'
 subst hf'
 clear hfit hds
 simp only[fillP,Nat.reduceAdd]
 have HW:=Lib.hid hW
 have HK:=Lib.hid (@hK)
 clear hW hK
 obtain⟨c0,c1,c2⟩:=HW.out.cells
 by_cases hlt:i<rn
 ·have i1:(i:Int)<(rn:Int):=by omega
  have i2:(0:Int)<=(i:Int):=by omega
  have i3:IntKind.i64.wrap ((i:Int)+1)=((i+1:Nat):Int):=by rw[IntKind.wrap_i64];have:=H6.out;omega
  have Hi:=Lib.hid (show i+q=rn/\i<rn from⟨hiq,hlt⟩)
  clear hiq
  go_wp2_with fail
  clear c0 c1 c2
  refine loop_n (λq2 a2 W2=>a2.defers=[]/\∃(k:Nat)(v2:Value),k+q2=cn/\KW w W2 RA rn rc most rows v2 (knN (atB rows 111) cn i k)/\Fits (none::some (.pointer (some ⟨w.heap.size,0,none⟩))::none::some (v2)::some (.int .i64 (i:Nat))::some (.int .i64 (k:Nat))::none::none::none::none::none::none::none::none::none::none::none::none::none::none::none::none::none::none::none::none::none::none::none::none::none::none::none::none::none::none::none::none::[]) a2.tmps.toList) cn ?_ ?_
  ·refine⟨rfl,0,v,by omega,HW.out,?_⟩
   repeat (first|exact fits_nil|refine fits_none ?_|refine fits_some ?_)
  clear HW
  clear W v
  intro q2 a2 W2 hI2 K2 hK2
  obtain⟨hds,k,v2,hkq,hW2,hfit⟩:=hI2
  obtain⟨f',hf'⟩:=fits_act hfit
  rw[hds]at hf'
  subst hf'
  clear hfit hds
  simp only[fillP,Nat.reduceAdd]
  have HW2:=Lib.hid hW2
  have HK2:=Lib.hid (@hK2)
  obtain⟨b,o,s,rfl,hbb,hx,x0⟩:=ltB8 hW2.sl hlt
  have x0':=(hW2.bel.cell (p:=⟨b,o+i,none⟩) hbb).trans x0
  have hss:=Hsz.out s (List.mem_of_getElem? hx)
  have Hrow:=Lib.hid (show∀k,atB rows 111 i k=decide (bt s k=111)fromλk=>by unfold atB;rw[hx])
  clear hW2 hK2 x0 hx
  obtain⟨c0,c1,c2⟩:=HW2.out.cells
  by_cases hkl:k<cn
  ·have hks:k<s.size:=by rw[hss];exact hkl
   have hbt:=get_bt s
   have k1:(k:Int)<(cn:Int):=by omega
   have k1':(k:Int)<(s.size:Int):=by omega
   have k2:(0:Int)<=(k:Int):=by omega
   have k4:IntKind.i64.wrap ((k:Int)+1)=((k+1:Nat):Int):=by rw[IntKind.wrap_i64];have:=H6.out;omega
   have Hkq:=Lib.hid (show k+q2=cn/\k<cn from⟨hkq,hkl⟩)
   clear hkq
   by_cases ho:bt s k=111
   ·have hkl2:=knN_len (atB rows 111) cn i k
    have hkm:i*cn<=5*6:=Nat.mul_le_mul (by have:=Hi.out;have:=H6.out;omega) H6.out.2
    have Hkn:=Lib.hid (knN_yes (o:=atB rows 111) (cn:=cn) (i:=i) (k:=k) (by rw[Hrow.out,ho];rfl))
    obtain⟨ks,hks2⟩:∃ks,knN (atB rows 111) cn i k=ks:=⟨_,rfl⟩
    rw[hks2]at HW2 Hkn hkl2
    have Hkl:=Lib.hid (show ks.length<=40 by have:=H6.out;omega)
    obtain⟨i0,hi0,hz0,hz1,hz2⟩:=info_parts info_rcell
    have HPa:=Lib.hid (HW2.out.later (balloc (brefl W2) (.cells #[.int .i64 (i:Nat),.int .i64 (k:Nat)] 32)))
    have HVs:=Lib.hid (show w.heap.size+1<=W2.heap.size by omega)
    have HNw:=Lib.hid (two_new W2 (.int .i64 (i:Nat)) (.int .i64 (k:Nat)) 32)
    clear hks2 hkl2 hkm HW2
    go_wp2_with (at_builtin;refine wpList_append_own _ rfl _ _ 26 rfl (w.heap.size+1) 32 i0 (.agg #[.int .i64 0,.int .i64 0]) 2 16 und_rcells hi0 hz0 hz1 hz2 rfl (by decide) v2 ks.length _ rfl HPa.out.own ⟨W2.heap.size,0,none⟩ 1 1 [.int .i64 (i:Nat),.int .i64 (k:Nat)] rfl rfl HNw.out (by simp[Value.oneCell']) (by have:=Hkl.out;simp only[maxLen];omega) (by have:=Hkl.out;omega) (by have:=HVs.out;simp;omega) ?_;intro v' W3 hown' hgr _;have HP3:=Lib.hid (HPa.out.app (x:=(i,k)) hgr hown');clear hown' hgr)
    obtain⟨j1,j2⟩:=Hkq.out
    refine HK2.out _ _ (q2-1) (by omega) ⟨rfl,k+1,_,by omega,by rw[Hkn.out];exact HP3.out,?_⟩
    repeat (first|exact fits_nil|refine fits_none ?_|refine fits_some ?_)
   ·have n1:decide (bt s k=111)=false:=decide_eq_false ho
    have n2:(bt s k==111)=false:=beq_eq_false_iff_ne.2 ho
    have HP4:=Lib.hid (show KW w W2 (some ⟨b,o,none⟩) rn rc most rows v2 (knN (atB rows 111) cn i (k+1))by rw[knN_no (by rw[Hrow.out];exact n1)];exact HW2.out)
    clear HW2
    go_wp2_with fail
    obtain⟨j1,j2⟩:=Hkq.out
    refine HK2.out _ _ (q2-1) (by omega) ⟨rfl,k+1,_,by omega,HP4.out,?_⟩
    repeat (first|exact fits_nil|refine fits_none ?_|refine fits_some ?_)
  ·have hkc:k=cn:=by omega
   subst hkc
   have k1':¬((k:Int)<(s.size:Int)):=by omega
   have HP5:=Lib.hid (show KW w W2 (some ⟨b,o,none⟩) rn rc most rows v2 (knN (atB rows 111) k (i+1) 0)by rw[knN_row];exact HW2.out)
   clear HW2 hkq
   go_wp2_with fail
   obtain⟨j1,j2⟩:=Hi.out
   refine HK.out _ _ (q-1) (by omega) ⟨rfl,i+1,_,by omega,HP5.out,?_⟩
   repeat (first|exact fits_nil|refine fits_none ?_|refine fits_some ?_)
 ·have hir:i=rn:=by omega
  subst hir
  clear hiq hlt
  go_wp2_with fail
  go_ret
  obtain⟨A,c,rfl,hsl⟩:=own_slG (k:=2) (enc:=encCl) (λ_=>rfl) HW.out.own rfl
  exact⟨A,c,rfl,HW.out.bel,hsl⟩
end Go.Proofs.YtifehdoghfnhoaaGreatDoor.Pa
namespace Go.Proofs.YtifehdoghfnhoaaGreatDoor.Pa
open Go.RowKit Go.Shelf Go.PlainAid Go.Proofs.YtifehdoghfnhoaaGreatDoor.C
def rowL(b n:Nat):List UInt8:=(List.range n).map λi=>bif Nat.beq (b / 2^i % 2) 1 then 111 else 46
def rowB(b n:Nat):ByteArray:=⟨(rowL b n).toArray⟩
theorem rowB_succ(b n:Nat):rowB b n++⟨#[bif Nat.beq (b / 2^n % 2) 1 then 111 else 46]⟩=rowB b (n+1):=by
 apply ByteArray.ext
 simp[rowB,rowL,List.range_succ,ByteArray.data_append]
theorem rowB_yes{b n:Nat}(h:b / 2^n % 2=1):rowB b n++⟨#[111]⟩=rowB b (n+1):=by
 rw[<-rowB_succ,h]
 rfl
theorem rowB_no{b n:Nat}(h:b / 2^n % 2=0):rowB b n++⟨#[46]⟩=rowB b (n+1):=by
 rw[<-rowB_succ,h]
 rfl
theorem rowB_size(b n:Nat):(rowB b n).size=n:=by simp[rowB,rowL,ByteArray.size]
theorem rowB_get(b n k:Nat)(h:k<(rowB b n).size):(rowB b n)[k]=bif Nat.beq (b / 2^k % 2) 1 then 111 else 46:=by
 have h2:k<n:=by rwa[rowB_size]at h
 show(rowB b n).data[k]=_
 simp[rowB,rowL]
theorem bt_row(b n k:Nat):bt (rowB b n) k=if k<n then(bif Nat.beq (b / 2^k % 2) 1 then 111 else 46)else 0:=by
 unfold bt
 by_cases h:k<n
 ·rw[dif_pos (by rw[rowB_size];exact h),if_pos h,rowB_get]
  cases Nat.beq (b / 2^k % 2) 1<;>rfl
 ·rw[dif_neg (by rw[rowB_size];exact h),if_neg h]
theorem row_35(b n a c:Nat):atB [rowB b n] 35 a c=false:=by
 unfold atB
 rcases a with _|a
 ·show decide (bt (rowB b n) c=35)=false
  rw[bt_row]
  split
  ·cases Nat.beq (b / 2^c % 2) 1<;>decide
  ·decide
 ·rfl
theorem row_111(b n c:Nat)(h:c<n):atB [rowB b n] 111 0 c=Nat.beq (b / 2^c % 2) 1:=by
 show decide (bt (rowB b n) c=111)=_
 rw[bt_row,if_pos h]
 cases Nat.beq (b / 2^c % 2) 1<;>rfl
theorem cols_filter(b:Nat):∀n,colsN b n=(List.range n).filter (λi=>Nat.beq (b / 2^i % 2) 1)
 |0=>rfl
 |n+1=>by
  rw[List.range_succ,List.filter_append,<-cols_filter b n,show colsN b (n+1)=bif Nat.beq (b / 2^n % 2) 1 then colsN b n++[n]else colsN b n from rfl]
  cases h:Nat.beq (b / 2^n % 2) 1<;>simp[h]
theorem row_knots(b n:Nat):knN (atB [rowB b n] 111) n 1 0=ksN b n:=by
 rw[knN_row]
 unfold knN ksN
 rw[cols_filter]
 congr 1
 exact List.filter_congr λc hc=>row_111 b n c (List.mem_range.1 hc)
theorem trim_all{l cs:List UInt8}(h:∀x∈l,cs.contains x=true):Lib.trimS l cs=[]:=by
 unfold Lib.trimS
 rw[Lib.trimRightS_take l cs 0 (Nat.zero_le _) (λj x _ hx=>h x (List.mem_of_getElem? hx)) (λx h0=>by omega)]
 rfl
theorem join_row(b n:Nat):joinB [rowB b n]=rowL b n:=by
 unfold joinB
 rw[List.map_cons,List.map_nil,Lib.join_one]
 simp[rowB]
theorem row_ok{b n m:Nat}(hn:1<=n/\n<=6)(hm:1<=m/\m<=6):ShOk 1 n m [rowB b n]:=by
 have hl:(rowL b n).length=n:=by simp[rowL]
 refine⟨by omega,by omega,λs hs=>?_,hn.1,hn.2,hm.1,by omega,?_,?_,?_⟩
 ·rw[List.mem_singleton.1 hs,rowB_size]
 ·rw[join_row]
  refine trim_all λx hx=>?_
  obtain⟨i,_,rfl⟩:=List.mem_map.1 hx
  cases Nat.beq (b / 2^i % 2) 1<;>decide
 ·rw[join_row]
  have:=List.count_le_length (a:=(111:UInt8)) (l:=rowL b n)
  unfold Lib.countByte
  omega
 ·rw[join_row]
  omega
theorem row_len{b n:Nat}(hn:n<=6):(knN (atB [rowB b n] 111) n 1 0).length<=10:=by
 have:=colsN_len b n
 rw[row_knots]
 simp[ksN]
 omega
theorem bit_u8(b i:Nat)(h:b<256):bits .and .u8 ((b:Int) / 2^i) 1=((b / 2^i % 2:Nat):Int):=by
 have h1:=(bits_nat .u8 8 (by decide) (λn h0 h1=>by rw[IntKind.wrap_u8];omega) (b / 2^i) 1 (Nat.lt_of_le_of_lt (Nat.div_le_self _ _) (by omega)) (by decide)).1
 rw[Nat.and_one_is_mod]at h1
 rw[<-h1]
 simp
set_option maxHeartbeats 1000000 in
theorem sheet_ok(A:Option Addr)(n c:Nat)(m:Int)(w:World):
 Calls Tryz.prog 23 #[.int .i64 m,.slice A n c] w λe w'=>e=.returned (.agg #[.slice A n c,.int .i64 m])/\Below w.heap.size w w':=by
 have HB:=Lib.hid (balloc (brefl w) (.cells #[.slice A n c,.int .i64 m] 24))
 have HN:=Lib.hid (Blk.new w 24 #[.slice A n c,.int .i64 m])
 go_enter Tryz.func23,Tryz.ntmps23
 go_wp2_with fail
 have c0:=HN.out.cell 0
 have c1:=HN.out.cell 1
 refine bodyPost_ret (v:=.agg #[.slice A n c,.int .i64 m]) ?_ rfl ⟨rfl,HB.out⟩
 simp[results,Tryz.results23,go_sem,c0,c1]
set_option maxRecDepth 100000 in
set_option maxHeartbeats 4000000 in
theorem strip_ok(n b m:Nat)(hn:n<=6)(hb:b<256)(w:World):
 Calls Tryz.prog 5 #[.int .i64 (n:Nat),.int .u8 (b:Nat),.string ⟨#[111]⟩,.int .i64 (m:Nat)] w λe w'=>∃k,e=.returned (.agg #[.slice (some ⟨k,0,none⟩) 1 1,.int .i64 (m:Nat)])/\Below w.heap.size w w'/\k<w'.heap.size/\w'.cell? ⟨k,0,none⟩=some (.string (rowB b n)):=by
 have HW0:=Lib.hid (show Blk (w.alloc (.cells #[.slice none 0 0,.int .i64 0] 24)) w.heap.size 24 #[.slice none 0 0,.int .i64 0]from Blk.new w _ _)
 obtain⟨w0,hw0⟩:∃w0,w.alloc (.cells #[.slice none 0 0,.int .i64 0] 24)=w0:=⟨_,rfl⟩
 have HB0:=Lib.hid (show Below w.heap.size w w0 from by rw[<-hw0];exact balloc (brefl w) _)
 rw[hw0]at HW0
 have HE:=Lib.hid hw0
 clear hw0
 go_enter Tryz.func5,Tryz.ntmps5
 go_wp2_with fail
 rw[HE.out]
 refine loop_n (λq a W=>a.defers=[]/\W=w0/\∃(i:Nat),i+q=n/\Fits (some (.int .i64 (n:Nat))::some (.int .u8 (b:Nat))::some (.string ⟨#[111]⟩)::some (.int .i64 (m:Nat))::none::none::none::none::some (.pointer (some ⟨w.heap.size,0,none⟩))::some (.string (rowB b i))::some (.int .i64 (i:Nat))::none::none::none::none::none::none::none::none::none::none::none::none::none::none::none::none::none::none::none::[]) a.tmps.toList) n ?_ ?_
 ·refine⟨rfl,rfl,0,by omega,?_⟩
  repeat (first|exact fits_nil|refine fits_none ?_|refine fits_some ?_)
 intro q a W hI K1 hK
 obtain⟨hds,rfl,i,hiq,hfit⟩:=hI
 obtain⟨f',hf'⟩:=fits_act hfit
 rw[hds]at hf'
 subst hf'
 clear hfit hds
 simp only[fillP,Nat.reduceAdd]
 have HK:=Lib.hid (@hK)
 clear hK
 by_cases hlt:i<n
 ·have i1:(i:Int)<(n:Int):=by omega
  have i2:(0:Int)<=(i:Int):=by omega
  have i3:IntKind.i64.wrap ((i:Int)+1)=((i+1:Nat):Int):=by rw[IntKind.wrap_i64];omega
  have hbit:=bit_u8 b i hb
  have Hi:=Lib.hid (show i+q=n/\i<n from⟨hiq,hlt⟩)
  have hd2:b / 2^i % 2<2:=Nat.mod_lt _ (by omega)
  obtain⟨d,hd⟩:∃d,b / 2^i % 2=d:=⟨_,rfl⟩
  rw[hd]at hbit hd2
  clear hiq
  by_cases hd1:d=1
  ·subst hd1
   have Hr:=Lib.hid (rowB_yes hd)
   have hsz:¬(9223372036854775807<(rowB b i).size+1):=by rw[rowB_size];omega
   obtain⟨s1,hs1⟩:∃s,rowB b i=s:=⟨_,rfl⟩
   rw[hs1]at Hr hsz ⊢
   clear hd hs1
   go_wp2_with fail
   obtain⟨j1,j2⟩:=Hi.out
   rw[Hr.out]
   refine HK.out _ _ (q-1) (by omega) ⟨rfl,rfl,i+1,by omega,?_⟩
   repeat (first|exact fits_nil|refine fits_none ?_|refine fits_some ?_)
  ·have hd0:d=0:=by omega
   subst hd0
   have Hr:=Lib.hid (rowB_no hd)
   have hsz:¬(9223372036854775807<(rowB b i).size+1):=by rw[rowB_size];omega
   obtain⟨s1,hs1⟩:∃s,rowB b i=s:=⟨_,rfl⟩
   rw[hs1]at Hr hsz ⊢
   clear hd hs1 hd1
   go_wp2_with fail
   obtain⟨j1,j2⟩:=Hi.out
   rw[Hr.out]
   refine HK.out _ _ (q-1) (by omega) ⟨rfl,rfl,i+1,by omega,?_⟩
   repeat (first|exact fits_nil|refine fits_none ?_|refine fits_some ?_)
 ·have hin:i=n:=by omega
  subst hin
  have HN:=Lib.hid (Blk.new W 9 #[.string (rowB b i)])
  have HBN:=Lib.hid (balloc HB0.out (.cells #[.string (rowB b i)] 9))
  have HS:=Lib.hid (λV=>sheet_ok (some ⟨W.heap.size,0,none⟩) 1 1 ((m:Nat):Int) V)
  have HW1:=Lib.hid (HW0.out.alloc (.cells #[.string (rowB b i)] 9))
  obtain⟨s1,hs1⟩:∃s,rowB b i=s:=⟨_,rfl⟩
  rw[hs1]at HN HBN HW1 ⊢
  have Hs:=Lib.hid hs1
  clear hs1 hiq hlt
  go_wp2_with fail
  refine(HS.out _).mono ?_
  rintro e w2⟨rfl,hb2⟩
  have hW2:=HW1.out.later hb2
  have hN2:=HN.out.later hb2
  have HB2:=Lib.hid (Below.later HBN.out hb2)
  have c0:=hW2.cell 0
  have c1:=hW2.cell 1
  have c2:=hW2.lt
  have f0:=hW2.frozen 0
  have f1:=hW2.frozen 1
  have hz:=(hW2.set 0 (.slice (some ⟨W.heap.size,0,none⟩) 1 1)).set 1 (.int .i64 (m:Nat))
  have z0:=hz.cell 0
  have z1:=hz.cell 1
  have hbe:=(HB2.out.setCell (p:=⟨w.heap.size,0,none⟩) (Nat.le_refl _) (.slice (some ⟨W.heap.size,0,none⟩) 1 1)).setCell (p:=⟨w.heap.size,1,none⟩) (Nat.le_refl _) (.int .i64 (m:Nat))
  have hlt2:w.heap.size<W.heap.size:=HW0.out.lt
  have hNz:=(hN2.other (p:=⟨w.heap.size,0,none⟩) (show w.heap.size≠W.heap.size by omega) (.slice (some ⟨W.heap.size,0,none⟩) 1 1)).other (p:=⟨w.heap.size,1,none⟩) (show w.heap.size≠W.heap.size by omega) (.int .i64 (m:Nat))
  have HF:=Lib.hid (And.intro hbe (And.intro hNz.lt (hNz.cell 0)))
  clear hb2 hW2 hN2 hz hbe hNz hlt2
  go_wp2_with fail
  rw[Hs.out]
  refine bodyPost_ret (v:=.agg #[.slice (some ⟨W.heap.size,0,none⟩) 1 1,.int .i64 (m:Nat)]) ?_ rfl ⟨W.heap.size,rfl,HF.out.1,HF.out.2.1,HF.out.2.2⟩
  simp[results,Tryz.results5,go_sem,z0,z1]
end Go.Proofs.YtifehdoghfnhoaaGreatDoor.Pa
namespace Go.Proofs.YtifehdoghfnhoaaGreatDoor.Pa
open Go.RowKit Go.Shelf Go.Proofs.YtifehdoghfnhoaaGreatDoor.C
theorem piecesH_len(n m:Nat):∀(hs:List Int)(ps:List Pc),(piecesH n m hs ps).length<=hs.length+ps.length
 |[],ps=>by simp[piecesH]
 |h::hs,ps=>by
  unfold piecesH
  cases ps.any (λq=>eqP q (pieceH n m h))with
  |true=>
   have:=piecesH_len n m hs ps
   simp only[cond_true,List.length_cons]
   omega
  |false=>
   have:=piecesH_len n m hs (ps++[pieceH n m h])
   simp only[cond_false,List.length_cons,List.length_append,List.length_nil]at this ⊢
   omega
theorem piecesH_yes{n m:Nat}{h:Int}{hs:List Int}{ps:List Pc}(hy:ps.any (λq=>eqP q (pieceH n m h))=true):piecesH n m (h::hs) ps=piecesH n m hs ps:=by
 conv=>lhs;unfold piecesH
 rw[hy,cond_true]
theorem piecesH_no{n m:Nat}{h:Int}{hs:List Int}{ps:List Pc}(hy:ps.any (λq=>eqP q (pieceH n m h))=false):piecesH n m (h::hs) ps=piecesH n m hs (ps++[pieceH n m h]):=by
 conv=>lhs;unfold piecesH
 rw[hy,cond_false]
theorem pcE_ok{n m:Nat}{p:Pc}(hn:n<=6)(h:pcE 1 n m p=0):PcOk p:=by
 unfold pcE at h
 cases hb:(Nat.ble 1 p.r&&Nat.ble p.r 1&&(Nat.ble 1 p.c&&Nat.ble p.c n)&&(Nat.ble (p.t+p.r) 1&&Nat.ble (p.l+p.c) n))with
 |false=>
  rw[hb]at h
  cases h
 |true=>
  simp only[Bool.and_eq_true,Nat.ble_eq]at hb
  exact⟨by omega,by omega,by omega,by omega,by omega,by omega⟩
theorem eqP_is(p q:Pc):eqP p q=(decide ((p.t:Int)=q.t)&&decide ((p.l:Int)=q.l)&&(decide ((p.r:Int)=q.r)&&decide ((p.c:Int)=q.c))):=by
 unfold eqP
 rw[Bool.eq_iff_iff]
 simp only[Bool.and_eq_true,Nat.beq_eq,decide_eq_true_eq,Int.natCast_inj]
theorem eq_ifs{yt yl yr yc plf pcc:Nat}{e:Bool}(he:eqP ⟨yt,yl,yr,yc⟩ ⟨0,plf,1,pcc⟩=e)(V:World):
 (if yt=0 then if(yl:Int)=(plf:Int)then if(yr:Int)=1 then if(yc:Int)=(pcc:Int)then Result.ok (Next.value (Value.bool true)) V else Result.ok (Next.value (Value.bool false)) V else Result.ok (Next.value (Value.bool false)) V else Result.ok (Next.value (Value.bool false)) V else Result.ok (Next.value (Value.bool false)) V)=Result.ok (Next.value (Value.bool e)) V:=by
 subst he
 rw[eqP_is]
 simp only
 by_cases h0:yt=0
 ·rw[if_pos h0]
  by_cases h1:(yl:Int)=(plf:Int)
  ·rw[if_pos h1]
   by_cases h2:(yr:Int)=1
   ·rw[if_pos h2]
    by_cases h3:(yc:Int)=(pcc:Int)
    ·rw[if_pos h3,decide_eq_true h1,decide_eq_true h3,decide_eq_true (show(yt:Int)=((0:Nat):Int)by omega),decide_eq_true (show(yr:Int)=((1:Nat):Int)by omega)]
     rfl
    ·rw[if_neg h3,decide_eq_false h3,Bool.and_false,Bool.and_false]
   ·rw[if_neg h2,decide_eq_false (show¬(yr:Int)=((1:Nat):Int)by omega),Bool.false_and,Bool.and_false]
  ·rw[if_neg h1,decide_eq_false h1,Bool.and_false,Bool.false_and]
 ·rw[if_neg h0,decide_eq_false (show¬(yt:Int)=((0:Nat):Int)by omega),Bool.false_and,Bool.false_and]
def OneR(B:Nat)(x y:Int)(v:Value)(W:World):Prop:=∃g,v=.slice (some ⟨g,0,none⟩) 1 1/\B<=g/\g<W.heap.size/\W.cell? ⟨g,0,none⟩=some (.int .i64 x)/\W.cell? ⟨g,1,none⟩=some (.int .i64 y)
theorem OneR.stab{B:Nat}(x y:Int):∀v W W',Gr W W'->OneR B x y v W->OneR B x y v W':=λ_ _ _ hG⟨g,h1,h0,h2,h3,h4⟩=>
 ⟨g,h1,h0,Nat.lt_of_lt_of_le h2 hG.size,(hG.cell (p:=⟨g,0,none⟩) h2).trans h3,(hG.cell (p:=⟨g,1,none⟩) h2).trans h4⟩
theorem OneR.grown{B:Nat}{x y:Int}{v:Value}{W W':World}{row:Option Nat}(h:OneR B x y v W)(hg:W.grownBy W' row)(hr:∀r,row=some r->r<B):OneR B x y v W':=by
 obtain⟨g,h1,h0,h2,h3,h4⟩:=h
 have hne:some g≠row:=λe=>by have:=hr g e.symm;omega
 exact⟨g,h1,h0,Nat.lt_of_lt_of_le h2 hg.size,(World.cell?_of_block (hg.block g h2 hne)).trans h3,(World.cell?_of_block (hg.block g h2 hne)).trans h4⟩
def RowR(B:Nat)(xs:List Rg)(v:Value)(W:World):Prop:=W.ownsRow B 34 2 v xs.length (xs.flatMap encR)
theorem RowR.stab{B:Nat}(xs:List Rg):∀v W W',Gr W W'->RowR B xs v W->RowR B xs v W':=λ_ _ _ hG h=>own_later h hG
theorem run_app_rgB{W:World}{base N:Nat}(ty:TypeId){v:Value}{xs xy:List Rg}{x:Rg}(hxy:xs++[x]=xy)(hown:W.ownsRow base 34 2 v xs.length (xs.flatMap encR))(hn:∀j u,(encR x)[j]? =some u->W.cell? ((⟨N,0,none⟩:Addr).add j)=some u) (h2:xs.length<=1000) (hb:base<=W.heap.size):
 ∃v' W',(Builtin.append_ #[28,28] ty #[v,.slice (some ⟨N,0,none⟩) 1 1]).run Tryz.prog W=.ok v' W'/\(W.grownBy W' v.ownBlock/\RowR base xy v' W'):=by
 subst hxy
 obtain⟨i0,hi0,hz0,hz1,hz2⟩:=info_parts info_rg
 obtain⟨v',W',h1',h2',h3',_⟩:=run_append_own (P:=Tryz.prog) W base 28 ty 34 i0 (.agg #[.int .i64 0,.int .i64 0]) 2 16 und_rgs hi0 hz0 hz1 hz2 rfl (by decide) v xs.length _ hown ⟨N,0,none⟩ 1 1 (encR x) rfl hn (by simp[encR,Value.oneCell']) (by simp only[maxLen];omega) (by omega) hb
 refine⟨_,W',h1',h3',?_⟩
 unfold RowR
 rw[List.flatMap_append,List.length_append]
 simpa using h2'
theorem one_news{W:World}{N:Nat}{x:Rg}(h0:W.cell? ⟨N,0,none⟩=some (.int .i64 x.lo))(h1:W.cell? ⟨N,1,none⟩=some (.int .i64 x.hi)):∀j u,(encR x)[j]? =some u->W.cell? ((⟨N,0,none⟩:Addr).add j)=some u:=by
 intro j u hu
 have hadd:(⟨N,0,none⟩:Addr).add j=⟨N,j,none⟩:=by unfold Addr.add;split<;>simp_all
 rw[hadd]
 match j with
 |0=>rw[h0];simpa[encR]using hu
 |1=>rw[h1];simpa[encR]using hu
 |j+2=>simp[encR]at hu
theorem rsN_map(b n m:Nat):rsN b n m=(ksN b n).map λx=>⟨(x.2:Int),(x.2:Int)+(m:Int)-1⟩:=by
 simp[rsN,ksN]
structure SheetW(w W:World)(k S:Nat)(row:ByteArray)(m:Nat):Prop where
 bel:Below w.heap.size w W
 lt:k<W.heap.size
 cell:W.cell? ⟨k,0,none⟩=some (.string row)
 sh:Blk W S 24 #[.slice (some ⟨k,0,none⟩) 1 1,.int .i64 (m:Nat)]
section
variable{w W W':World}{k S m:Nat}{row:ByteArray}
theorem SheetW.later(h:SheetW w W k S row m)(hb:Below W.heap.size W W'):SheetW w W' k S row m:=⟨Below.later h.bel hb,Nat.lt_of_lt_of_le h.lt hb.size,(hb.cell (p:=⟨k,0,none⟩) h.lt).trans h.cell,h.sh.later hb⟩
theorem SheetW.sl(h:SheetW w W k S row m):Sl 1 encB8 W W.heap.size (some ⟨k,0,none⟩) 1 1 [row]:=⟨rfl,by omega,by omega,λ_=>⟨k,0,rfl,h.lt,λj x hx i u hu=>by
 cases j with
 |succ j=>simp at hx
 |zero=>
  simp at hx
  subst hx
  have hi:i<1:=(List.getElem?_eq_some_iff.1 hu).1
  obtain rfl:i=0:=by omega
  simp only[encB8]at hu
  rw[show 0+0*1+0=0 by omega,h.cell]
  simpa using hu⟩⟩
theorem SheetW.cells(h:SheetW w W k S row m):W.cell? ⟨S,0,none⟩=some (.slice (some ⟨k,0,none⟩) 1 1)/\W.cell? ⟨S,1,none⟩=some (.int .i64 (m:Nat))/\S<W.heap.size:=⟨h.sh.cell 0,h.sh.cell 1,h.sh.lt⟩
end
structure YardW(W:World)(Y:Nat)(A:Option Addr)(n c:Nat)(rs:List Rg):Prop where
 blk:Blk W Y 30 #[.int .i64 10,.slice A n c]
 sl:Sl 2 encR W W.heap.size A n c rs
section
variable{W W':World}{Y n c:Nat}{A:Option Addr}{rs:List Rg}
theorem YardW.later(h:YardW W Y A n c rs)(hb:Below W.heap.size W W'):YardW W' Y A n c rs:=⟨h.blk.later hb,h.sl.later hb⟩
theorem YardW.cells(h:YardW W Y A n c rs):W.cell? ⟨Y,0,none⟩=some (.int .i64 10)/\W.cell? ⟨Y,1,none⟩=some (.slice A n c)/\Y<W.heap.size:=⟨h.blk.cell 0,h.blk.cell 1,h.blk.lt⟩
end
theorem hours_is{Y i c:Nat}{A:Option Addr}{b n m:Nat}(W:World)(h:YardW W Y A i c (rsN b n m))(hl:(rsN b n m).length=i)(hy:yardE 10 (rsN b n m)=0):
 Calls Tryz.prog 9 #[.agg #[.int .i64 10,.slice A i c]] W λe w'=>∃g,e=.returned (.tuple #[.slice (some ⟨g,0,none⟩) i i,.int .i64 0])/\Below W.heap.size W w'/\Sl 1 encI w' w'.heap.size (some ⟨g,0,none⟩) i i (hoursN b n m):=by
 subst hl
 have h1:=hours_ok 10 A c (rsN b n m) W h.sl hy
 refine Calls.mono (show Calls Tryz.prog 9 #[.agg #[.int .i64 10,.slice A (rsN b n m).length c]] W _ from h1) ?_
 rintro e w'⟨g,l,ts,H,rfl,hb,hF,hsl⟩
 exact⟨g,rfl,hb,by rw[<-(fill_one hF).2];exact hsl⟩
end Go.Proofs.YtifehdoghfnhoaaGreatDoor.Pa
