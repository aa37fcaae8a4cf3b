/- The walk of TopClippedPatch. -/
import Derived.Test.YtpbcmkebdcejkaaGreatDoorZPtE0
import Derived.Test.YtpbcmkebdcejkaaGreatDoorZPtE1
import Derived.Test.YtpbcmkebdcejkaaGreatDoorZPtE2
import Derived.Test.YtpbcmkebdcejkaaGreatDoorZPtE3
import Derived.Test.YtpbcmkebdcejkaaGreatDoorZPtD
import Derived.Test.YtpbcmkebdcejkaaGreatDoorZCRefRib
namespace Go.Proofs.YtpbcmkebdcejkaaGreatDoor.Ev
open Go.RowKit Go.Shelf
theorem okT1(b:Nat)(h:b<2):OkT 1 b:=match b,h with
 |0,_=>s_1_0
 |1,_=>s_1_1
 |_+2,h=>absurd h (by omega)
theorem okT2(b:Nat)(h:b<4):OkT 2 b:=match b,h with
 |0,_=>s_2_0
 |1,_=>s_2_1
 |2,_=>s_2_2
 |3,_=>s_2_3
 |_+4,h=>absurd h (by omega)
theorem okT3(b:Nat)(h:b<8):OkT 3 b:=match b,h with
 |0,_=>s_3_0
 |1,_=>s_3_1
 |2,_=>s_3_2
 |3,_=>s_3_3
 |4,_=>s_3_4
 |5,_=>s_3_5
 |6,_=>s_3_6
 |7,_=>s_3_7
 |_+8,h=>absurd h (by omega)
theorem okT4(b:Nat)(h:b<16):OkT 4 b:=match b,h with
 |0,_=>s_4_0
 |1,_=>s_4_1
 |2,_=>s_4_2
 |3,_=>s_4_3
 |4,_=>s_4_4
 |5,_=>s_4_5
 |6,_=>s_4_6
 |7,_=>s_4_7
 |8,_=>s_4_8
 |9,_=>s_4_9
 |10,_=>s_4_10
 |11,_=>s_4_11
 |12,_=>s_4_12
 |13,_=>s_4_13
 |14,_=>s_4_14
 |15,_=>s_4_15
 |_+16,h=>absurd h (by omega)
theorem okT5(b:Nat)(h:b<32):OkT 5 b:=match b,h with
 |0,_=>s_5_0
 |1,_=>s_5_1
 |2,_=>s_5_2
 |3,_=>s_5_3
 |4,_=>s_5_4
 |5,_=>s_5_5
 |6,_=>s_5_6
 |7,_=>s_5_7
 |8,_=>s_5_8
 |9,_=>s_5_9
 |10,_=>s_5_10
 |11,_=>s_5_11
 |12,_=>s_5_12
 |13,_=>s_5_13
 |14,_=>s_5_14
 |15,_=>s_5_15
 |16,_=>s_5_16
 |17,_=>s_5_17
 |18,_=>s_5_18
 |19,_=>s_5_19
 |20,_=>s_5_20
 |21,_=>s_5_21
 |22,_=>s_5_22
 |23,_=>s_5_23
 |24,_=>s_5_24
 |25,_=>s_5_25
 |26,_=>s_5_26
 |27,_=>s_5_27
 |28,_=>s_5_28
 |29,_=>s_5_29
 |30,_=>s_5_30
 |31,_=>s_5_31
 |_+32,h=>absurd h (by omega)
theorem okT6(b:Nat)(h:b<64):OkT 6 b:=match b,h with
 |0,_=>s_6_0
 |1,_=>s_6_1
 |2,_=>s_6_2
 |3,_=>s_6_3
 |4,_=>s_6_4
 |5,_=>s_6_5
 |6,_=>s_6_6
 |7,_=>s_6_7
 |8,_=>s_6_8
 |9,_=>s_6_9
 |10,_=>s_6_10
 |11,_=>s_6_11
 |12,_=>s_6_12
 |13,_=>s_6_13
 |14,_=>s_6_14
 |15,_=>s_6_15
 |16,_=>s_6_16
 |17,_=>s_6_17
 |18,_=>s_6_18
 |19,_=>s_6_19
 |20,_=>s_6_20
 |21,_=>s_6_21
 |22,_=>s_6_22
 |23,_=>s_6_23
 |24,_=>s_6_24
 |25,_=>s_6_25
 |26,_=>s_6_26
 |27,_=>s_6_27
 |28,_=>s_6_28
 |29,_=>s_6_29
 |30,_=>s_6_30
 |31,_=>s_6_31
 |32,_=>s_6_32
 |33,_=>s_6_33
 |34,_=>s_6_34
 |35,_=>s_6_35
 |36,_=>s_6_36
 |37,_=>s_6_37
 |38,_=>s_6_38
 |39,_=>s_6_39
 |40,_=>s_6_40
 |41,_=>s_6_41
 |42,_=>s_6_42
 |43,_=>s_6_43
 |44,_=>s_6_44
 |45,_=>s_6_45
 |46,_=>s_6_46
 |47,_=>s_6_47
 |48,_=>s_6_48
 |49,_=>s_6_49
 |50,_=>s_6_50
 |51,_=>s_6_51
 |52,_=>s_6_52
 |53,_=>s_6_53
 |54,_=>s_6_54
 |55,_=>s_6_55
 |56,_=>s_6_56
 |57,_=>s_6_57
 |58,_=>s_6_58
 |59,_=>s_6_59
 |60,_=>s_6_60
 |61,_=>s_6_61
 |62,_=>s_6_62
 |63,_=>s_6_63
 |_+64,h=>absurd h (by omega)
theorem okT(L b:Nat)(h1:1<=L)(h6:L<=6)(h:b<2^L):OkT L b:=match L,h1,h6,h with
 |1,_,_,h=>okT1 b h
 |2,_,_,h=>okT2 b h
 |3,_,_,h=>okT3 b h
 |4,_,_,h=>okT4 b h
 |5,_,_,h=>okT5 b h
 |6,_,_,h=>okT6 b h
 |0,h,_,_=>absurd h (by omega)
 |_+7,_,h,_=>absurd h (by omega)
end Go.Proofs.YtpbcmkebdcejkaaGreatDoor.Ev
namespace Go.Proofs.YtpbcmkebdcejkaaGreatDoor.Pt
open Go.RowKit Go.Shelf Go.Proofs.YtpbcmkebdcejkaaGreatDoor.C
def bN(fs:List Int):Nat:=(fs.map λf=>2^f.toNat).sum
theorem bN_snoc(fs:List Int)(f:Int):bN (fs++[f])=bN fs+2^f.toNat:=by simp[bN]
theorem bitN_iff(b i:Nat):bitN b i=true↔b / 2^i % 2=1:=⟨λh=>Nat.eq_of_beq_eq_true h,λh=>by
 show Nat.beq (b / 2^i % 2) 1=true
 rw[h];rfl⟩
theorem bitN_low{m n i:Nat}(hi:i<n):bitN (m+2^n) i=bitN m i:=by
 obtain⟨d,rfl⟩:∃d,n=i+1+d:=⟨n-(i+1),by omega⟩
 rw[Bool.eq_iff_iff,bitN_iff,bitN_iff]
 have h2:2^(i+1+d)=2^i*(2*2^d):=by rw[Nat.pow_add,Nat.pow_succ,Nat.mul_assoc]
 rw[h2,Nat.add_mul_div_left _ _ (Nat.pow_pos (by omega))]
 omega
theorem bitN_top{m n:Nat}(h:m<2^n):bitN (m+2^n) n=true:=by
 rw[bitN_iff]
 have:(m+2^n) / 2^n=1:=by
  rw[Nat.add_div_right _ (Nat.pow_pos (by omega)),Nat.div_eq_of_lt h]
 rw[this]
theorem bitN_no{m n:Nat}(h:m<2^n):bitN m n=false:=by
 rw[Bool.eq_false_iff]
 intro e
 rw[bitN_iff,Nat.div_eq_of_lt h]at e
 omega
theorem fsOf_succ(n b:Nat):fsOf (n+1) b=fsOf n b++if bitN b n then [(n:Int)]else []:=by
 unfold fsOf
 rw[List.range_succ,List.filter_append,List.map_append]
 cases h:bitN b n<;>simp[h]
theorem fsOf_low{m n:Nat}:fsOf n (m+2^n)=fsOf n m:=by
 unfold fsOf
 congr 1
 refine List.filter_congr λi hi=>bitN_low (List.mem_range.1 hi)
theorem asc_bits:∀(n:Nat)(fs:List Int),fs.Pairwise (· < ·)->(∀x∈fs,0<=x/\x<(n:Int))->bN fs<2^n/\fs=fsOf n (bN fs)
 |0,fs,_,hb=>by
  cases fs with
  |nil=>exact⟨by decide,rfl⟩
  |cons x l=>have:=hb x (by simp);omega
 |n+1,fs,hp,hb=>by
  by_cases hl:∃gs,fs=gs++[(n:Int)]
  ·obtain⟨gs,rfl⟩:=hl
   obtain⟨h1,h2⟩:=asc_bits n gs (List.pairwise_append.1 hp).1 (λx hx=>⟨(hb x (by simp[hx])).1,(List.pairwise_append.1 hp).2.2 x hx n (by simp)⟩)
   have e:bN (gs++[(n:Int)])=bN gs+2^n:=by rw[bN_snoc];rfl
   refine⟨by rw[e,Nat.pow_succ];omega,?_⟩
   rw[e,fsOf_succ,fsOf_low,bitN_top h1,<-h2]
   rfl
  ·have hlt:∀x∈fs,x<(n:Int):=λx hx=>by
    have h1:=hb x hx
    by_cases e:x=n
    ·exfalso
     obtain⟨k,hk,hkx⟩:=List.getElem_of_mem hx
     refine hl ⟨fs.take k,?_⟩
     have h2:fs=fs.take k++fs.drop k:=(List.take_append_drop k fs).symm
     have h3:fs.drop k=fs[k]::fs.drop (k+1):=List.drop_eq_getElem_cons hk
     have h4:fs.drop (k+1)=[]:=by
      cases h5:fs.drop (k+1)with
      |nil=>rfl
      |cons y l=>
       exfalso
       have h6:k+1<fs.length:=by
        by_cases h7:k+1<fs.length
        ·exact h7
        ·rw[List.drop_eq_nil_of_le (by omega)]at h5;cases h5
       have h8:=List.pairwise_iff_getElem.1 hp k (k+1) hk h6 (by omega)
       have h9:=hb fs[k+1] (List.getElem_mem h6)
       omega
     rw[h4,hkx,e]at h3
     rw[<-h3]
     exact h2
    ·omega
   obtain⟨h1,h2⟩:=asc_bits n fs hp (λx hx=>⟨(hb x hx).1,hlt x hx⟩)
   refine⟨Nat.lt_trans h1 (by rw[Nat.pow_succ];have:=Nat.pow_pos (n:=n) (show 0<2 by omega);omega),?_⟩
   rw[fsOf_succ,bitN_no h1,<-h2]
   simp
theorem rib_bits{L:Nat}{fs:List Int}(h:ribE (L:Int) fs=0):bN fs<2^L/\fs=fsOf L (bN fs)/\fs.Pairwise (· < ·)/\∀x∈fs,0<=x/\x<(L:Int):=by
 obtain⟨_,hg⟩:=ribE_zero h
 have hd:∀j(hj:j<fs.length),fs.getD j 0=fs[j]:=λj hj=>by simp[List.getD,hj]
 have h1:∀x∈fs,0<=x/\x<(L:Int):=λx hx=>by
  obtain⟨j,hj,rfl⟩:=List.getElem_of_mem hx
  have:=hg j hj
  simp only[gdB,Bool.and_eq_true,decide_eq_true_eq,hd j hj]at this
  exact this.1
 have h2:∀j,(hj:j+1<fs.length)->fs[j]<fs[j+1]:=λj hj=>by
  have:=hg (j+1) hj
  simp only[gdB,Bool.and_eq_true,Bool.or_eq_true,decide_eq_true_eq,Nat.add_sub_cancel,hd (j+1) hj,hd j (by omega)]at this
  rcases this.2 with h|h
  ·omega
  ·exact h
 have h3:∀d i,(hi:i+d+1<fs.length)->fs[i]<fs[i+d+1]:=by
  intro d
  induction d with
  |zero=>exactλi hi=>h2 i hi
  |succ d ih=>exactλi hi=>Int.lt_trans (ih i (by omega)) (h2 (i+d+1) hi)
 have hp:fs.Pairwise (· < ·):=List.pairwise_iff_getElem.2 λi j hi hj hij=>by
  obtain⟨d,rfl⟩:∃d,j=i+d+1:=⟨j-i-1,by omega⟩
  exact h3 d i hj
 obtain⟨a,b⟩:=asc_bits L fs hp h1
 exact⟨a,b,hp,h1⟩
structure Facts(L b w:Nat):Prop where
 one:worth L b 1=(L:Int)-((fsOf L b).length:Int)
 nn:0<=worth L b w
 le:worth L b w*(w:Int)<=worth L b 1
 some:∀p,bestP L b=some p->(0<worth L b w↔w<=p.2)
 none:bestP L b=none->worth L b 1=0/\worth L b w=0
theorem facts_of{L b w:Nat}(h:factW L b w=true):Facts L b w:=by
 unfold factW at h
 simp only[Bool.and_eq_true,decide_eq_true_eq]at h
 obtain⟨⟨⟨h1,h2⟩,h3⟩,h4⟩:=h
 refine⟨h1,h2,h3,λp hp=>?_,λhp=>?_⟩
 ·rw[hp]at h4
  have h4:=eq_of_beq h4
  rw[Bool.eq_iff_iff,decide_eq_true_eq]at h4
  exact h4.trans ⟨Nat.le_of_ble_eq_true,Nat.ble_eq_true_of_le⟩
 ·rw[hp]at h4
  simpa only[Bool.and_eq_true,decide_eq_true_eq]using h4
theorem facts{L b w:Nat}(h1:1<=L)(h6:L<=6)(hb:b<2^L)(w1:1<=w)(wL:w<=L):Facts L b w:=by
 have key:factAll L=true:=by
  obtain rfl|rfl|rfl|rfl|rfl|rfl:L=1\/L=2\/L=3\/L=4\/L=5\/L=6:=by omega
  ·exact fact1
  ·exact fact2
  ·exact fact3
  ·exact fact4
  ·exact fact5
  ·exact fact6
 have h:=List.all_eq_true.1 key b (List.mem_range.2 hb)
 have h:=List.all_eq_true.1 h (w-1) (List.mem_range.2 (by omega))
 rw[show w-1+1=w by omega]at h
 exact facts_of h
def orOk(f:Nat):Bool:=(List.range (2^f)).all λm=>decide (bits .or .u8 ((m:Nat):Int) ((2^f:Nat):Int)=((m+2^f:Nat):Int))
theorem or_bit{f m:Nat}(hf:f<6)(hm:m<2^f):bits .or .u8 ((m:Nat):Int) ((2^f:Nat):Int)=((m+2^f:Nat):Int):=by
 have key:orOk f=true:=by
  obtain rfl|rfl|rfl|rfl|rfl|rfl:f=0\/f=1\/f=2\/f=3\/f=4\/f=5:=by omega
  all_goals kernel_rfl
 exact of_decide_eq_true (List.all_eq_true.1 key m (List.mem_range.2 hm))
theorem bN_take{fs:List Int}{i:Nat}{x:Int}(hx:fs[i]? =some x):bN (fs.take (i+1))=bN (fs.take i)+2^x.toNat:=by
 obtain⟨h1,h2⟩:=List.getElem?_eq_some_iff.1 hx
 rw[List.take_succ_eq_append_getElem h1,h2,bN_snoc]
theorem bN_below{fs:List Int}(hp:fs.Pairwise (· < ·))(h0:∀x∈fs,0<=x){i:Nat}{x:Int}(hx:fs[i]? =some x):bN (fs.take i)<2^x.toNat:=by
 obtain⟨h1,h2⟩:=List.getElem?_eq_some_iff.1 hx
 refine(asc_bits x.toNat (fs.take i) (hp.sublist (List.take_sublist _ _)) (λy hy=>?_)).1
 have hyf:=List.mem_of_mem_take hy
 refine⟨h0 y hyf,?_⟩
 obtain⟨j,hj,rfl⟩:=List.getElem_of_mem hy
 have hj':j<i:=by simp at hj;omega
 have:=List.pairwise_iff_getElem.1 hp j i (by omega) h1 hj'
 rw[List.getElem_take]
 have:=h0 x (List.mem_of_getElem? hx)
 omega
end Go.Proofs.YtpbcmkebdcejkaaGreatDoor.Pt
namespace Go.Proofs.YtpbcmkebdcejkaaGreatDoor.Pt
open Go.RowKit Go.Shelf Go.Proofs.YtpbcmkebdcejkaaGreatDoor.C
structure RW(w W:World)(L:Int)(FA:Option Addr)(fn fc:Nat)(fs:List Int):Prop where
 bel:Below w.heap.size w W
 b0:Blk W w.heap.size 24 #[.int .i64 L,.slice FA fn fc]
 sl:Sl 1 encI W W.heap.size FA fn fc fs
section
variable{w W W':World}{L:Int}{FA:Option Addr}{fn fc:Nat}{fs:List Int}
theorem RW.later(h:RW w W L FA fn fc fs)(hb:Below W.heap.size W W'):RW w W' L FA fn fc fs:=⟨Below.later h.bel hb,h.b0.later hb,h.sl.later hb⟩
theorem RW.cells(h:RW w W L FA fn fc fs):W.cell? ⟨w.heap.size,0,none⟩=some (.int .i64 L)/\W.cell? ⟨w.heap.size,1,none⟩=some (.slice FA fn fc)/\w.heap.size<W.heap.size:=⟨h.b0.cell 0,h.b0.cell 1,h.b0.lt⟩
end
structure PW(w W:World)(L:Int)(FA:Option Addr)(fn fc:Nat)(k S:Nat)(row:ByteArray):Prop where
 bel:Below w.heap.size w W
 b0:Blk W w.heap.size 24 #[.int .i64 L,.slice FA fn fc]
 st:Ev.StrB W k Ev.strT row
 sh:Blk W S 30 #[.slice (some ⟨k,0,none⟩) 1 1,.int .i64 36]
 hk:w.heap.size<k
 hS:k<S
section
variable{w W W':World}{L:Int}{FA:Option Addr}{fn fc k S:Nat}{row:ByteArray}
theorem PW.later(h:PW w W L FA fn fc k S row)(hb:Below W.heap.size W W'):PW w W' L FA fn fc k S row:=⟨Below.later h.bel hb,h.b0.later hb,h.st.later hb,h.sh.later hb,h.hk,h.hS⟩
theorem PW.keep(h:PW w W L FA fn fc k S row)(hs:Ev.StrB W' k Ev.strT row)(hb:Ev.KeepB k W W'):PW w W' L FA fn fc k S row:=
 ⟨h.bel.trans (hb.below (Nat.le_of_lt h.hk) h.bel.size),(hb.block _ h.b0.lt (by have:=h.hk;omega)).trans h.b0,hs,(hb.block _ h.sh.lt (by have:=h.hS;omega)).trans h.sh,h.hk,h.hS⟩
theorem PW.cells(h:PW w W L FA fn fc k S row):W.cell? ⟨w.heap.size,0,none⟩=some (.int .i64 L)/\W.cell? ⟨w.heap.size,1,none⟩=some (.slice FA fn fc)/\w.heap.size<W.heap.size/\W.cell? ⟨S,0,none⟩=some (.slice (some ⟨k,0,none⟩) 1 1)/\W.cell? ⟨S,1,none⟩=some (.int .i64 36)/\S<W.heap.size:=
 ⟨h.b0.cell 0,h.b0.cell 1,h.b0.lt,h.sh.cell 0,h.sh.cell 1,h.sh.lt⟩
end
theorem kind_sl{W:World}{K:Nat}{a:Int}(h:Blk W K 35 #[.int .i64 a,.int .i64 1,.int .i64 0]):Sl 3 encK W W.heap.size (some ⟨K,0,none⟩) 1 1 [⟨a,1,0⟩]:=⟨rfl,by omega,by omega,λ_=>⟨K,0,rfl,h.lt,λj x hx k u hu=>by
 cases j with
 |succ j=>simp at hx
 |zero=>
  simp at hx
  subst hx
  simp only[encK]at hu
  rw[show 0+0*3+k=k by omega,h.cell]
  simpa using hu⟩⟩
theorem kok{L:Int}{fs:List Int}{w:Nat}(h:ribE L fs=0)(h1:1<=w)(h2:w<=24):rkE L fs [⟨w,1,0⟩]=0:=by
 unfold rkE
 rw[if_pos h]
 unfold kndE
 have h1:=(badK_iff ⟨w,1,0⟩).2 (by show((1:Int)<=(w:Int)/\(w:Int)<=24)/\(1<=(1:Int)/\(1:Int)<=1000)/\((0:Int)<=0/\(0:Int)<=24);omega)
 simp[h1,inR]
set_option maxRecDepth 100000 in
set_option maxHeartbeats 8000000 in
theorem patch_law(H4:Hid (∀W:World,Calls Tryz.prog 5 #[] W (λe W'=>e=.returned (.bool true)/\Gr W W')))(L:Int)(FA:Option Addr)(fn fc:Nat)(fs:List Int)(wu:Int)(w:World)(hfs:Sl 1 encI w w.heap.size FA fn fc fs)(hwu:0<=wu/\wu<=255):
 Calls Tryz.prog 3 #[.agg #[.int .i64 L,.slice FA fn fc],.int .u8 wu] w λe w'=>e=.returned (.bool true)/\Below w.heap.size w w':=by
 have hB:=balloc (brefl w) (.cells #[.int .i64 L,.slice FA fn fc] 24)
 have HK0:=Lib.hid (show RW w (w.alloc (.cells #[.int .i64 L,.slice FA fn fc] 24)) L FA fn fc fs from⟨hB,Blk.new w _ _,hfs.later hB⟩)
 have Hfs:=Lib.hid hfs
 have hlen:=hfs.len
 have Hlen:=Lib.hid hlen
 clear hB hfs hlen
 obtain⟨c0,c1,c2⟩:=HK0.out.cells
 by_cases hfn:(30:Int)<(fn:Int)
 case pos=>
  clear Hfs Hlen
  go_enter Tryz.func3,Tryz.ntmps3
  go_wp2_with fail
  refine(H4.out _).mono ?_
  rintro e we⟨rfl,hbe⟩
  have HBE:=Lib.hid (Below.later HK0.out.bel hbe)
  clear hbe
  go_wp2
  go_ret
  exact⟨rfl,HBE.out⟩
 case neg=>
 have Hrib:=Lib.hid (λW h=>refRib_any L FA fn fc fs W h)
 by_cases hrb:ribE L fs=0
 case neg=>
  obtain⟨q,hq⟩:∃q,ribE L fs=q:=⟨_,rfl⟩
  rw[hq]at Hrib hrb
  have d1:(q != 0)=true:=by simpa using hrb
  clear hq
  go_enter Tryz.func3,Tryz.ntmps3
  go_wp2_with fail
  refine(Hrib.out _ HK0.out.sl).mono ?_
  rintro e w1⟨rfl,hb⟩
  have HK1:=Lib.hid (HK0.out.later hb)
  clear hb HK0 c0 c1 c2
  obtain⟨c0,c1,c2⟩:=HK1.out.cells
  go_wp2_with fail
  refine(H4.out _).mono ?_
  rintro e we⟨rfl,hbe⟩
  have HBE:=Lib.hid (Below.later HK1.out.bel hbe)
  clear hbe
  go_wp2
  go_ret
  exact⟨rfl,HBE.out⟩
 case pos=>
 obtain⟨hL,_⟩:=ribE_zero hrb
 obtain⟨Ln,rfl⟩:∃n:Nat,L=n:=⟨L.toNat,by omega⟩
 have Hrb:=Lib.hid hrb
 rw[hrb]at Hrib
 by_cases hL6:(6:Int)<(Ln:Int)
 case pos=>
  clear Hfs Hlen hrb Hrb
  go_enter Tryz.func3,Tryz.ntmps3
  go_wp2_with fail
  refine(Hrib.out _ HK0.out.sl).mono ?_
  rintro e w2⟨rfl,hb⟩
  have HK1:=Lib.hid (HK0.out.later hb)
  clear hb HK0 c0 c1 c2
  obtain⟨c0,c1,c2⟩:=HK1.out.cells
  go_wp2_with fail
  refine(H4.out _).mono ?_
  rintro e we⟨rfl,hbe⟩
  have HBE:=Lib.hid (Below.later HK1.out.bel hbe)
  clear hbe
  go_wp2
  go_ret
  exact⟨rfl,HBE.out⟩
 case neg=>
 obtain⟨r1,r2,r3,r4⟩:=rib_bits hrb
 have HE:=Lib.hid r2
 have Hasc:=Lib.hid r3
 have Hbd:=Lib.hid r4
 have Hb:=Lib.hid r1
 obtain⟨t,ht⟩:∃t,wu.tmod (Ln:Int)=t:=⟨_,rfl⟩
 have htr:0<=t/\t<Ln:=by
  rw[<-ht,Int.tmod_eq_emod_of_nonneg hwu.1]
  exact⟨Int.emod_nonneg _ (by omega),Int.emod_lt_of_pos _ (by omega)⟩
 obtain⟨wd,hwd⟩:∃wd:Nat,1+t=wd:=⟨(1+t).toNat,by omega⟩
 have hwd1:1<=wd/\wd<=Ln:=by omega
 have hLn:1<=Ln/\Ln<=6:=by omega
 have k1:IntKind.i64.wrap wu=wu:=by rw[IntKind.wrap_i64];omega
 have k2:IntKind.i64.wrap t=t:=by rw[IntKind.wrap_i64];omega
 have k3:IntKind.i64.wrap (1+t)=(wd:Int):=by rw[IntKind.wrap_i64];omega
 have k4:¬((Ln:Int)=0):=by omega
 have HLn:=Lib.hid hLn
 have Hwd:=Lib.hid hwd1
 clear r1 r2 r3 r4 hrb hL hwd htr hwd1 hLn hwu
 go_enter Tryz.func3,Tryz.ntmps3
 go_wp2_with fail
 refine(Hrib.out _ HK0.out.sl).mono ?_
 rintro e w3⟨rfl,hb⟩
 have HK1:=Lib.hid (HK0.out.later hb)
 clear hb HK0 c0 c1 c2
 obtain⟨c0,c1,c2⟩:=HK1.out.cells
 clear Hrib
 go_wp2_with fail
 clear c0 c1 c2
 refine loop_n (λq a W=>a.defers=[]/\∃(i:Nat),i+q=fn/\RW w W (Ln:Int) FA fn fc fs/\Fits (none::none::some (.pointer (some ⟨w.heap.size,0,none⟩))::none::none::some (.int .i64 wd)::some (.int .u8 (bN (fs.take i):Nat))::some (.int .i64 (i:Nat))::none::none::none::none::none::none::none::none::none::none::none::none::none::none::none::none::none::none::none::none::none::none::none::none::none::none::none::none::none::none::none::none::none::none::none::none::none::none::none::none::none::none::none::none::none::none::none::none::none::none::none::none::none::none::none::none::none::none::none::none::none::none::none::none::none::none::none::none::none::none::none::none::none::none::none::none::none::none::none::none::none::none::none::none::none::none::none::none::none::none::none::none::none::none::none::none::none::none::none::none::none::none::none::none::none::none::none::none::none::none::none::none::none::none::none::none::none::none::none::none::none::none::none::none::none::[]) a.tmps.toList) fn ?_ ?_
 ·refine⟨rfl,0,by omega,HK1.out,?_⟩
  repeat (first|exact fits_nil|refine fits_none ?_|refine fits_some ?_)
 intro q a W hI K1 hK
 obtain⟨hds,i,hiq,hT,hfit⟩:=hI
 obtain⟨f',hf'⟩:=fits_act hfit
 rw[hds]at hf'
 subst hf'
 clear hfit hds HK1
 simp only[fillP,Nat.reduceAdd]
 have c0:=hT.b0.cell 0
 have c1:=hT.b0.cell 1
 have c2:=hT.b0.lt
 have HT:=Lib.hid hT
 by_cases hlt:i<fn
 ·obtain⟨b,o,x,rfl,hbb,hx,x0⟩:=hT.sl.ltI hlt
  have hxb:=Hbd.out x (List.mem_of_getElem? hx)
  obtain⟨f,rfl⟩:∃f:Nat,x=f:=⟨x.toNat,by omega⟩
  have hf:f<6:=by have:=HLn.out;omega
  have hbel:=bN_below Hasc.out (λy hy=>(Hbd.out y hy).1) hx
  have hst:=bN_take hx
  rw[Int.toNat_natCast]at hbel hst
  have ho:=or_bit hf hbel
  rw[<-hst]at ho
  obtain⟨m,hm⟩:∃m,bN (fs.take i)=m:=⟨_,rfl⟩
  obtain⟨m',hm'⟩:∃m',bN (fs.take (i+1))=m':=⟨_,rfl⟩
  rw[hm,hm']at ho
  rw[hm]
  have Hm':=Lib.hid hm'
  have i1:(i:Int)<(fn:Int):=by omega
  have i2:(0:Int)<=(i:Int):=by omega
  have i3:IntKind.i64.wrap ((i:Int)+1)=(i:Int)+1:=by rw[IntKind.wrap_i64];omega
  clear hbel hst hm hm' hxb hx hT
  obtain rfl|rfl|rfl|rfl|rfl|rfl:f=0\/f=1\/f=2\/f=3\/f=4\/f=5:=by omega
  all_goals
   first
    |have ho2:bits .or .u8 (m:Int) 1=(m':Int):=ho
    |have ho2:bits .or .u8 (m:Int) 2=(m':Int):=ho
    |have ho2:bits .or .u8 (m:Int) 4=(m':Int):=ho
    |have ho2:bits .or .u8 (m:Int) 8=(m':Int):=ho
    |have ho2:bits .or .u8 (m:Int) 16=(m':Int):=ho
    |have ho2:bits .or .u8 (m:Int) 32=(m':Int):=ho
   clear ho
   go_wp2
   refine hK _ _ (q-1) (by omega) ⟨rfl,i+1,by omega,HT.out,?_⟩
   rw[Hm'.out]
   repeat (first|exact fits_nil|refine fits_none ?_|refine fits_some ?_)
 ·obtain rfl:i=fn:=by omega
  have htk:fs.take i=fs:=List.take_of_length_le (by have:=Hlen.out;omega)
  rw[htk]
  obtain⟨bb,hbb⟩:∃bb,bN fs=bb:=⟨_,rfl⟩
  rw[hbb]at HE Hb ⊢
  have HOK:=Lib.hid (Ev.okT Ln bb HLn.out.1 HLn.out.2 Hb.out)
  have hF:=facts HLn.out.1 HLn.out.2 Hb.out Hwd.out.1 Hwd.out.2
  obtain⟨V1,hV1⟩:∃V1,worth Ln bb wd=V1:=⟨_,rfl⟩
  obtain⟨O1,hO1⟩:∃O1,worth Ln bb 1=O1:=⟨_,rfl⟩
  have hone:=hF.one
  rw[<-HE.out,hO1,Hlen.out]at hone
  have hnn:=hF.nn
  have hle:=hF.le
  have hso:=hF.some
  have hno:=hF.none
  rw[hV1]at hnn hle hso hno
  rw[hO1]at hle hno
  have Hw1:=Lib.hid (λV(h:Sl 1 encI V V.heap.size FA i fc fs)K(h2:Sl 3 encK V V.heap.size (some ⟨K,0,none⟩) 1 1 [⟨wd,1,0⟩])=>Worth_ok Ln FA i fc fs (some ⟨K,0,none⟩) 1 [⟨wd,1,0⟩] V h h2 (kok Hrb.out Hwd.out.1 (by have:=Hwd.out;have:=HLn.out;omega)))
  have Hw2:=Lib.hid (λV(h:Sl 1 encI V V.heap.size FA i fc fs)K(h2:Sl 3 encK V V.heap.size (some ⟨K,0,none⟩) 1 1 [⟨((1:Nat):Int),1,0⟩])=>Worth_ok Ln FA i fc fs (some ⟨K,0,none⟩) 1 [⟨((1:Nat):Int),1,0⟩] V h h2 (kok Hrb.out (by omega) (by omega)))
  have e1:aheadAt Ln (Fst fs Ln) [⟨wd,1,0⟩] Ln Ln=V1:=by rw[<-hV1];unfold worth;rw[<-HE.out]
  have e2:aheadAt Ln (Fst fs Ln) [⟨((1:Nat):Int),1,0⟩] Ln Ln=O1:=by rw[<-hO1];unfold worth;rw[<-HE.out]
  rw[e1]at Hw1
  rw[e2]at Hw2
  have hO6:0<=O1/\O1<=6:=by
   have:=Int.mul_nonneg hnn (show(0:Int)<=(wd:Int)by omega)
   have:=HLn.out
   omega
  have hpr:=Int.mul_nonneg hnn (show(0:Int)<=(wd:Int)by omega)
  obtain⟨pr,hprd⟩:∃pr,V1*(wd:Int)=pr:=⟨_,rfl⟩
  rw[hprd]at hle hpr
  have j1:IntKind.i64.wrap ((Ln:Int)-(i:Int))=O1:=by rw[hone,IntKind.wrap_i64];have:=HLn.out;have:=hone;omega
  have j2:IntKind.i64.wrap (V1*(wd:Int))=pr:=by rw[hprd,IntKind.wrap_i64];omega
  have j3:decide (V1<0)=false:=decide_eq_false (by omega)
  have j4:decide (O1<pr)=false:=decide_eq_false (by omega)
  have j5:decide (pr>O1)=false:=decide_eq_false (by omega)
  have HFS:=Lib.hid (And.intro hso hno)
  have HWB:=Lib.hid HT.out.bel
  clear hF hV1 hO1 hone hnn hle hso hno e1 e2 hO6 hpr hprd hlt hiq hK hT htk
  go_wp2_with fail
  refine(HOK.out.strip _).mono ?_
  rintro e v1⟨k,rfl,hk,hs,hb⟩
  have HP0:=Lib.hid (show PW w (v1.alloc (.cells #[.slice (some ⟨k,0,none⟩) 1 1,.int .i64 36] 30)) (Ln:Int) FA i fc k v1.heap.size (Ev.rowS Ln bb)from
   ⟨balloc (Below.later HWB.out hb) _,(HT.out.b0.later hb).alloc _,hs.later (balloc (brefl _) _),Blk.new _ _ _,by omega,by obtain⟨arr,a1,_⟩:=hs;exact(Array.getElem?_eq_some_iff.1 a1).1⟩)
  clear hk hs hb c0 c1 c2 HT HWB
  obtain⟨c0,c1,c2,c3,c4,c5⟩:=HP0.out.cells
  go_wp2_with fail
  obtain⟨S,hS⟩:∃S,v1.heap.size=S:=⟨_,rfl⟩
  obtain⟨U,hU⟩:∃U,v1.alloc (.cells #[.slice (some ⟨k,0,none⟩) 1 1,.int .i64 36] 30)=U:=⟨_,rfl⟩
  have hUs:U.heap.size=S+1:=by rw[<-hU,World.size_alloc,hS]
  rw[hU,hS]at HP0
  rw[hU,hS]
  have hbk:=Blk.new U 35 #[.int .i64 (wd:Nat),.int .i64 1,.int .i64 0]
  rw[hUs]at hbk
  refine(Hw1.out _ (Hfs.out.later (Below.later HP0.out.bel (balloc (brefl U) _))) _ (kind_sl hbk)).mono ?_
  rintro e v2⟨rfl,hb⟩
  have HP1:=Lib.hid (HP0.out.later (Below.later (balloc (brefl U) _) hb))
  clear hU hS hUs hbk hb HP0 Hw1 c0 c1 c2 c3 c4 c5
  obtain⟨c0,c1,c2,c3,c4,c5⟩:=HP1.out.cells
  go_wp2_with fail
  have hbk:=Blk.new v2 35 #[.int .i64 1,.int .i64 1,.int .i64 0]
  refine(Hw2.out _ (Hfs.out.later (Below.later HP1.out.bel (balloc (brefl v2) _))) _ (kind_sl hbk)).mono ?_
  rintro e v3⟨rfl,hb⟩
  have HP2:=Lib.hid (HP1.out.later (Below.later (balloc (brefl v2) _) hb))
  clear hbk hb HP1 Hw2 Hfs c0 c1 c2 c3 c4 c5
  obtain⟨c0,c1,c2,c3,c4,c5⟩:=HP2.out.cells
  cases hp:bestP Ln bb with
  |none=>
   have Hlg:=Lib.hid (show∀V,Ev.StrB V k Ev.strT (Ev.rowS Ln bb)->Calls Tryz.prog 8 #[.agg #[.slice (some ⟨k,0,none⟩) 1 1,.int .i64 36]] V λe W'=>e=.returned (.tuple #[.agg #[.int .i64 0,.int .i64 0,.int .i64 0,.int .i64 0],.int .i64 5])/\Ev.StrB W' k Ev.strT (Ev.rowS Ln bb)/\Ev.KeepB k V W' fromλV h=>by
    have:=HOK.out.largest k V h
    rw[hp]at this
    exact this)
   obtain⟨rfl,rfl⟩:=HFS.out.2 hp
   clear hp HFS HOK
   go_wp2_with fail
   refine(Hlg.out _ HP2.out.st).mono ?_
   rintro e v4⟨rfl,hs,hb⟩
   have HP3:=Lib.hid (HP2.out.keep hs hb)
   clear hs hb HP2 Hlg c0 c1 c2 c3 c4 c5
   obtain⟨c0,c1,c2,c3,c4,c5⟩:=HP3.out.cells
   go_wp2_with fail
   refine(H4.out _).mono ?_
   rintro e we⟨rfl,hbe⟩
   have HBE:=Lib.hid (Below.later (balloc HP3.out.bel _) hbe)
   clear hbe c0 c1 c2 c3 c4 c5
   go_wp2
   go_ret
   exact⟨rfl,HBE.out⟩
  |some p=>
   obtain⟨pl,pc⟩:=p
   have Hlg:=Lib.hid (show∀V,Ev.StrB V k Ev.strT (Ev.rowS Ln bb)->Calls Tryz.prog 8 #[.agg #[.slice (some ⟨k,0,none⟩) 1 1,.int .i64 36]] V λe W'=>e=.returned (.tuple #[.agg #[.int .i64 0,.int .i64 (pl:Nat),.int .i64 1,.int .i64 (pc:Nat)],.int .i64 0])/\Ev.StrB W' k Ev.strT (Ev.rowS Ln bb)/\Ev.KeepB k V W' fromλV h=>by
    have:=HOK.out.largest k V h
    rw[hp]at this
    exact this)
   have Hck:=Lib.hid (show∀V,Ev.StrB V k Ev.strT (Ev.rowS Ln bb)->Calls Tryz.prog 9 #[.agg #[.slice (some ⟨k,0,none⟩) 1 1,.int .i64 36],.agg #[.int .i64 0,.int .i64 (pl:Nat),.int .i64 1,.int .i64 (pc:Nat)]] V λe W'=>e=.returned (.int .i64 0)/\Ev.StrB W' k Ev.strT (Ev.rowS Ln bb)/\Ev.KeepB k V W' fromλV h=>HOK.out.check hp k V h)
   have hiff:=HFS.out.1 (pl,pc) hp
   simp only at hiff
   clear hp HFS HOK
   go_wp2_with fail
   refine(Hlg.out _ HP2.out.st).mono ?_
   rintro e v4⟨rfl,hs,hb⟩
   have HP3:=Lib.hid (HP2.out.keep hs hb)
   clear hs hb HP2 Hlg c0 c1 c2 c3 c4 c5
   have HP4:=Lib.hid (HP3.out.later (balloc (brefl v4) (.cells #[.int .i64 0,.int .i64 (pl:Nat),.int .i64 1,.int .i64 (pc:Nat)] 38)))
   obtain⟨c0,c1,c2,c3,c4,c5⟩:=HP3.out.cells
   by_cases hc:wd<=pc
   case pos=>
    have y1:decide (0<V1)=true:=decide_eq_true (hiff.2 hc)
    have y2:decide (V1>0)=true:=decide_eq_true (hiff.2 hc)
    have y3:decide (wd<=pc)=true:=decide_eq_true hc
    have y4:decide ((wd:Int)<=(pc:Int))=true:=decide_eq_true (by omega)
    clear hiff hc
    go_wp2_with fail
    refine(Hck.out _ HP4.out.st).mono ?_
    rintro e v5⟨rfl,hs,hb⟩
    have HP5:=Lib.hid (HP4.out.keep hs hb)
    have hpb:=(hb.block v4.heap.size (by simp) (by have:=HP3.out.sh.lt;have:=HP3.out.hS;omega)).trans (World.alloc_heap_new v4 (.cells #[.int .i64 0,.int .i64 (pl:Nat),.int .i64 1,.int .i64 (pc:Nat)] 38))
    have p3:v5.cell? ⟨v4.heap.size,3,none⟩=some (.int .i64 (pc:Nat)):=by
     rw[Lib.cell_of_heap hpb]
     rfl
    have p4:v4.heap.size<v5.heap.size:=(Array.getElem?_eq_some_iff.1 hpb).1
    clear hs hb HP4 Hck c0 c1 c2 c3 c4 c5 hpb
    go_wp2_with fail
    refine(H4.out _).mono ?_
    rintro e we⟨rfl,hbe⟩
    have HBE:=Lib.hid (Below.later HP5.out.bel hbe)
    clear hbe p3 p4
    go_wp2
    go_ret
    exact⟨rfl,HBE.out⟩
   case neg=>
    have y1:decide (0<V1)=false:=decide_eq_false (λh=>hc (hiff.1 h))
    have y2:decide (V1>0)=false:=decide_eq_false (λh=>hc (hiff.1 h))
    have y3:decide (wd<=pc)=false:=decide_eq_false hc
    have y4:decide ((wd:Int)<=(pc:Int))=false:=decide_eq_false (by omega)
    clear hiff hc
    go_wp2_with fail
    refine(Hck.out _ HP4.out.st).mono ?_
    rintro e v5⟨rfl,hs,hb⟩
    have HP5:=Lib.hid (HP4.out.keep hs hb)
    have hpb:=(hb.block v4.heap.size (by simp) (by have:=HP3.out.sh.lt;have:=HP3.out.hS;omega)).trans (World.alloc_heap_new v4 (.cells #[.int .i64 0,.int .i64 (pl:Nat),.int .i64 1,.int .i64 (pc:Nat)] 38))
    have p3:v5.cell? ⟨v4.heap.size,3,none⟩=some (.int .i64 (pc:Nat)):=by
     rw[Lib.cell_of_heap hpb]
     rfl
    have p4:v4.heap.size<v5.heap.size:=(Array.getElem?_eq_some_iff.1 hpb).1
    clear hs hb HP4 Hck c0 c1 c2 c3 c4 c5 hpb
    go_wp2_with fail
    refine(H4.out _).mono ?_
    rintro e we⟨rfl,hbe⟩
    have HBE:=Lib.hid (Below.later HP5.out.bel hbe)
    clear hbe p3 p4
    go_wp2
    go_ret
    exact⟨rfl,HBE.out⟩
end Go.Proofs.YtpbcmkebdcejkaaGreatDoor.Pt
