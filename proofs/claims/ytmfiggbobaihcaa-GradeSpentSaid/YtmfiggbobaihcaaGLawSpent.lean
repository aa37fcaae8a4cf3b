/- The walk of GradeSpent. -/
import Derived.Test.YtmfiggbobaihcaaGFilled
import Derived.Deep.CutRange
namespace Go.Proofs.Ytmfiggbobaihcaa
open Go.RowKit Go.Shelf

/-- While the new prices are laid. -/
structure MX (V W : World) (BX PB : Nat) (cs : Array Value) (n : Nat) (F : Nat → Int) : Prop where
  be : Below V.heap.size V W
  xb : Blk W BX 25 cs
  pb : Blk W PB 2 (numArr n F)
theorem MX.set {V W : World} {BX PB : Nat} {cs : Array Value} {n : Nat} {F : Nat → Int} (h : MX V W BX PB cs n F) (h1 : V.heap.size ≤ PB) (h2 : PB ≠ BX) (g : Nat) (v : Int) : MX V (W.setCell ⟨PB, g, none⟩ (.int .i64 v)) BX PB cs n (Gr9.upd F g v) := by
  refine ⟨bset h.be (p := ⟨PB, g, none⟩) h1 (.int .i64 v), h.xb.other h2 _, ?_⟩
  have h3 := h.pb.set g (.int .i64 v)
  rw [numArr_set] at h3
  exact h3
theorem MX.later {V W W' : World} {BX PB : Nat} {cs : Array Value} {n : Nat} {F : Nat → Int} (h : MX V W BX PB cs n F) (hb : Below W.heap.size W W') : MX V W' BX PB cs n F := ⟨Below.later h.be hb, h.xb.later hb, h.pb.later hb⟩
theorem mx_a (V : World) (cs : Array Value) (n : Nat) : MX V ((V.alloc (.cells cs 25)).alloc (.cells (numArr n (fun _ => 0)) 2)).drew V.heap.size (V.heap.size + 1) cs n (fun _ => 0) := by
  have h1 := Blk.new (V.alloc (.cells cs 25)) 2 (numArr n (fun _ => 0))
  rw [World.size_alloc] at h1
  exact ⟨bdrew (balloc (balloc (brefl V) _) _) 1, (Blk.new V _ _).alloc _, h1⟩
theorem mx_b (V : World) (cs : Array Value) (n : Nat) : MX V ((V.alloc (.cells (numArr n (fun _ => 0)) 2)).alloc (.cells cs 25)).drew (V.heap.size + 1) V.heap.size cs n (fun _ => 0) := by
  have h1 := Blk.new (V.alloc (.cells (numArr n (fun _ => 0)) 2)) 25 cs
  rw [World.size_alloc] at h1
  exact ⟨bdrew (balloc (balloc (brefl V) _) _) 1, h1, (Blk.new V _ _).alloc _⟩
/-- The new prices fall. -/
def PrOk (F : Nat → Int) (i : Nat) (p : Int) : Prop := (0 ≤ p ∧ p ≤ 100) ∧ (∀ g, g < i → p ≤ F g ∧ F g ≤ 100) ∧ ∀ g, g + 1 < i → F (g + 1) ≤ F g
theorem PrOk.next {F : Nat → Int} {i : Nat} {p q : Int} (h : PrOk F i p) (h0 : 0 ≤ q) (hq : q ≤ p) : PrOk (Gr9.upd F i q) (i + 1) q := by
  obtain ⟨h1, h2, h3⟩ := h
  refine ⟨by omega, fun g hg => ?_, fun g hg => ?_⟩
  · unfold Gr9.upd
    split
    · omega
    · have := h2 g (by omega)
      omega
  · have e1 : Gr9.upd F i q g = F g := by unfold Gr9.upd; rw [if_neg (by omega)]
    rw [e1]
    by_cases e : g + 1 = i
    · have e2 : Gr9.upd F i q (g + 1) = q := by unfold Gr9.upd; rw [if_pos e]
      have := h2 g (by omega)
      omega
    · have e2 : Gr9.upd F i q (g + 1) = F (g + 1) := by unfold Gr9.upd; rw [if_neg e]
      have := h3 g (by omega)
      omega
theorem list_at {F : Nat → Int} {n j : Nat} {x : Int} (h : ((List.range n).map F)[j]? = some x) : j < n ∧ x = F j := by
  rw [List.getElem?_map, Option.map_eq_some_iff] at h
  obtain ⟨k, hk, rfl⟩ := h
  obtain ⟨h1, h2⟩ := List.getElem?_eq_some_iff.1 hk
  rw [List.length_range] at h1
  rw [List.getElem_range] at h2
  exact ⟨h1, by rw [h2]⟩
/-- With the new prices the shop is fine. -/
theorem fine_prices {S P : List Int} {O : List Od} {F : Nat → Int} {p : Int} (hF : Fine S P O) (h : PrOk F S.length p) : Fine S ((List.range S.length).map F) O := by
  refine ⟨hF.n1, hF.n5, hF.o8, by simp, hF.stk, fun x hx => ?_, hF.ord, fun j x y hx hy => ?_⟩
  · rw [List.mem_map] at hx
    obtain ⟨g, hg, rfl⟩ := hx
    rw [List.mem_range] at hg
    have h1 := h.1
    have := h.2.1 g hg
    omega
  · obtain ⟨h1, rfl⟩ := list_at hx
    obtain ⟨h2, rfl⟩ := list_at hy
    exact h.2.2 j h2
set_option maxRecDepth 100000 in
set_option maxHeartbeats 8000000 in
theorem spent_law (SA : Option Addr) (sn sc : Nat) (PA : Option Addr) (pn pc : Nat) (OA : Option Addr) (on oc : Nat) (S P : List Int) (O : List Od) (BA : Option Addr) (bn bc : Nat) (bs : List Nat) (QA : Option Addr) (qn qc : Nat) (qs : List Nat) (w : World) (hs : ShopIn w w.heap.size SA sn sc PA pn pc OA on oc S P O) (hbs : Sl 1 encB w w.heap.size BA bn bc bs) (hbd : ∀ x ∈ bs, x < 256) (hqs : Sl 1 encB w w.heap.size QA qn qc qs) (hqd : ∀ x ∈ qs, x < 256) : Calls Try.prog 9 #[.agg #[.slice SA sn sc, .slice PA pn pc, .slice OA on oc], .slice BA bn bc, .slice QA qn qc] w fun e w' => e = .returned (.bool true) ∧ Below w.heap.size w w' := by
  obtain rfl := hs.stk.len
  obtain rfl := hs.prc.len
  obtain rfl := hs.ord.len
  have HG0 := Lib.hid (GW.start hs)
  obtain ⟨g0, g1, g2, g3⟩ := HG0.out.cells
  have hb9 := balloc (brefl w) (.cells #[.slice SA S.length sc, .slice PA P.length pc, .slice OA O.length oc] 25)
  have HB0 := Lib.hid (hbs.later hb9)
  have HQ0 := Lib.hid (hqs.later hb9)
  clear hb9
  have Hf := Lib.hid (fun W (h : ShopIn W W.heap.size SA S.length sc PA P.length pc OA O.length oc S P O) => fine_any SA S.length sc PA P.length pc OA O.length oc S P O W h)
  by_cases he : shopE S P O = 0
  case neg =>
    rw [decide_eq_false he] at Hf
    clear hs he hbs hbd hqs hqd HB0 HQ0
    go_enter Try.func9, Try.ntmps9
    go_wp2_with fail
    refine (Hf.out _ HG0.out.sh).mono ?_
    rintro e w1 ⟨rfl, hb⟩
    have HG1 := Lib.hid (HG0.out.later hb)
    clear hb HG0 g0 g1 g2 g3
    obtain ⟨g0, g1, g2, g3⟩ := HG1.out.cells
    go_wp2_with fail
    refine (works_any _).mono ?_
    rintro e we ⟨rfl, hbe⟩
    have HBE := Lib.hid (Below.later HG1.out.bel hbe)
    clear hbe
    go_wp2
    go_ret
    exact ⟨rfl, HBE.out⟩
  case pos =>
  rw [decide_eq_true he] at Hf
  cases hd : decide ((50 : Int) < (bn : Int)) with
  | true =>
    clear hs hbs hbd hqs hqd he HB0 HQ0
    go_enter Try.func9, Try.ntmps9
    go_wp2_with fail
    refine (Hf.out _ HG0.out.sh).mono ?_
    rintro e w2 ⟨rfl, hb⟩
    have HG1 := Lib.hid (HG0.out.later hb)
    clear hb HG0 g0 g1 g2 g3
    obtain ⟨g0, g1, g2, g3⟩ := HG1.out.cells
    go_wp2_with fail
    refine (works_any _).mono ?_
    rintro e we ⟨rfl, hbe⟩
    have HBE := Lib.hid (Below.later HG1.out.bel hbe)
    clear hbe
    go_wp2
    go_ret
    exact ⟨rfl, HBE.out⟩
  | false =>
  have h50 : bn ≤ 50 := by rw [decide_eq_false_iff_not] at hd; omega
  cases hd2 : decide ((10 : Int) < (qn : Int)) with
  | true =>
    clear hs hbs hbd hqs hqd he HB0 HQ0
    go_enter Try.func9, Try.ntmps9
    go_wp2_with fail
    refine (Hf.out _ HG0.out.sh).mono ?_
    rintro e w3 ⟨rfl, hb⟩
    have HG1 := Lib.hid (HG0.out.later hb)
    clear hb HG0 g0 g1 g2 g3
    obtain ⟨g0, g1, g2, g3⟩ := HG1.out.cells
    go_wp2_with fail
    refine (works_any _).mono ?_
    rintro e we ⟨rfl, hbe⟩
    have HBE := Lib.hid (Below.later HG1.out.bel hbe)
    clear hbe
    go_wp2
    go_ret
    exact ⟨rfl, HBE.out⟩
  | false =>
  have h10 : qn ≤ 10 := by rw [decide_eq_false_iff_not] at hd2; omega
  cases hc : canB S.length O (stockM S) with
  | false =>
    have Hl := Lib.hid (fun W (h : ShopIn W W.heap.size SA S.length sc PA P.length pc OA O.length oc S P O) => least_no SA S.length sc PA P.length pc OA O.length oc S P O W h he hc)
    clear hs hbs hbd hqs hqd he HB0 HQ0 hc
    go_enter Try.func9, Try.ntmps9
    go_wp2_with fail
    refine (Hf.out _ HG0.out.sh).mono ?_
    rintro e w4 ⟨rfl, hb⟩
    have HG1 := Lib.hid (HG0.out.later hb)
    clear hb HG0 g0 g1 g2 g3
    obtain ⟨g0, g1, g2, g3⟩ := HG1.out.cells
    go_wp2_with fail
    refine (Hl.out _ HG1.out.sh).mono ?_
    rintro e w5 ⟨rfl, hb⟩
    have HG2 := Lib.hid (HG1.out.later hb)
    clear hb HG1 g0 g1 g2 g3
    obtain ⟨g0, g1, g2, g3⟩ := HG2.out.cells
    go_wp2_with fail
    refine (works_any _).mono ?_
    rintro e we ⟨rfl, hbe⟩
    have HBE := Lib.hid (Below.later HG2.out.bel hbe)
    clear hbe
    go_wp2
    go_ret
    exact ⟨rfl, HBE.out⟩
  | true =>
  have hF := fine_of he
  have n5 := hF.n5
  have n1 := hF.n1
  have HF := Lib.hid hF
  have He := Lib.hid he
  have Hc := Lib.hid hc
  have o8 := hF.o8
  have Hqd := Lib.hid hqd
  have Hl := Lib.hid (fun W (h : ShopIn W W.heap.size SA S.length sc PA P.length pc OA O.length oc S P O) => least_ok SA S.length sc PA P.length pc OA O.length oc S P O W h he hc)
  have Hsp := Lib.hid (fun W (h : ShopIn W W.heap.size SA S.length sc PA P.length pc OA O.length oc S P O) => spentA_ok SA S.length sc PA P.length pc OA O.length oc S P O W h (filE_ok he hc))
  have Hfl := Lib.hid (fun W (h : ShopIn W W.heap.size SA S.length sc PA P.length pc OA O.length oc S P O) (hb : Sl 1 encB W W.heap.size BA bn bc bs) => filled_any SA S.length sc PA P.length pc OA O.length oc S P O BA bn bc bs W h hb hbd h50 he)
  have hmk := make_longs S.length (by omega)
  generalize leV S.length P O (stockM S) = nv at *
  clear hs hbs hbd hqs hqd he hF hc
  go_enter Try.func9, Try.ntmps9
  go_wp2_with fail
  refine (Hf.out _ HG0.out.sh).mono ?_
  rintro e w6 ⟨rfl, hb⟩
  have HG1 := Lib.hid (HG0.out.later hb)
  have HB1 := Lib.hid (HB0.out.later hb)
  have HQ1 := Lib.hid (HQ0.out.later hb)
  clear hb HG0 HB0 HQ0 g0 g1 g2 g3
  obtain ⟨g0, g1, g2, g3⟩ := HG1.out.cells
  go_wp2_with fail
  refine (Hl.out _ HG1.out.sh).mono ?_
  rintro e w7 ⟨X, rfl, hb, hX⟩
  have HG2 := Lib.hid (HG1.out.later hb)
  have HB2 := Lib.hid (HB1.out.later hb)
  have HQ2 := Lib.hid (HQ1.out.later hb)
  clear hb HG1 HB1 HQ1 g0 g1 g2 g3
  obtain ⟨g0, g1, g2, g3⟩ := HG2.out.cells
  have Hst := Lib.hid (fun g (hg : g < S.length) => (show 0 ≤ spV S.length O (stockM S) g ∧ spV S.length O (stockM S) g ≤ stockM S g from by
    have h1 := hX.right.le g hg
    rw [hX.got g hg] at h1
    exact ⟨(spV_bound HF.out.ok hg).1, h1⟩))
  clear hX X
  go_wp2_with fail
  refine (Hsp.out _ HG2.out.sh).mono ?_
  rintro e w8 ⟨tb, rfl, hb, hsl⟩
  have HG3 := Lib.hid (HG2.out.later hb)
  have HB3 := Lib.hid (HB2.out.later hb)
  have HQ3 := Lib.hid (HQ2.out.later hb)
  clear hb HG2 HB2 HQ2 g0 g1 g2 g3
  obtain ⟨g0, g1, g2, g3⟩ := HG3.out.cells
  have HT3 := Lib.hid hsl
  clear hsl
  go_wp2_with fail
  refine (Hfl.out _ HG3.out.sh HB3.out).mono ?_
  rintro e w9 ⟨A1, c1, L, rfl, hb, hfl, hsz, hfe⟩
  have HG4 := Lib.hid (HG3.out.later hb)
  have HB4 := Lib.hid (HB3.out.later hb)
  have HQ4 := Lib.hid (HQ3.out.later hb)
  have HT4 := Lib.hid (HT3.out.later hb)
  clear hb HG3 HB3 HQ3 HT3 g0 g1 g2 g3
  obtain ⟨g0, g1, g2, g3⟩ := HG4.out.cells
  have HR4 := Lib.hid hfl
  have Hsz := Lib.hid hsz
  clear hfl hsz hfe
  have Hfu := Lib.hid (fun (h : decide (fillE S P O (rowsX L) = 0) = true) g (hg : g < S.length) => spends_right HF.out Hsz.out.len (fillE_right (of_decide_eq_true h)).2 hg)
  have Hgv := Lib.hid (fun W (h : ShopIn W W.heap.size SA S.length sc PA P.length pc OA O.length oc S P O) (hl : FillIn W A1 O.length c1 L) => refGiven_any SA S.length sc PA P.length pc OA O.length oc S P O A1 O.length c1 L W h hl n5 (by have := hl.sl.len; omega) Hsz.out.row Hsz.out.small)
  generalize decide (fillE S P O (rowsX L) = 0) = full at *
  go_wp2_with fail
  refine (Hgv.out _ HG4.out.sh HR4.out).mono ?_
  rintro e w10 ⟨vb, rfl, hb, hsl⟩
  have HG5 := Lib.hid (HG4.out.later hb)
  have HB5 := Lib.hid (HB4.out.later hb)
  have HQ5 := Lib.hid (HQ4.out.later hb)
  have HT5 := Lib.hid (HT4.out.later hb)
  have HR5 := Lib.hid (HR4.out.later hb)
  clear hb HG4 HB4 HQ4 HT4 HR4 g0 g1 g2 g3
  obtain ⟨g0, g1, g2, g3⟩ := HG5.out.cells
  have HV5 := Lib.hid hsl
  clear hsl
  have HTk := Lib.hid (show (∀ g, g < S.length → 0 ≤ gotX (rowsX L) g ∧ gotX (rowsX L) g ≤ 160) from fun g _ => by
    have h1 := gotP_bound Hsz.out.small g (rowsX L).length
    have h2 := Hsz.out.len
    unfold gotX
    omega)
  go_upto_region 13 with fail
  go_cut [15] from 23 (fun s15 wx => ∃ BX PB, s15 = .pointer (some ⟨BX, 0, none⟩) ∧ w10.heap.size ≤ PB ∧ w10.heap.size ≤ BX ∧ PB ≠ BX ∧ MX w10 wx BX PB #[.slice SA S.length sc, .slice (some ⟨PB, 0, none⟩) S.length S.length, .slice OA O.length oc] S.length (fun _ => 0))
  case first =>
    go_region
    all_goals
      go_wp2_with fail
      go_meet
      case rel => first | exact ⟨_, _, rfl, Nat.le_succ _, Nat.le_refl _, by omega, mx_a _ _ _⟩ | exact ⟨_, _, rfl, Nat.le_refl _, Nat.le_succ _, by omega, mx_b _ _ _⟩
  case rest =>
  obtain ⟨BX, PB, rfl, hPB, hBX, hne, hM⟩ := hcut
  have HM0 := Lib.hid hM
  have HPB := Lib.hid (And.intro hPB hne)
  have HP0 := Lib.hid (show PrOk (fun _ => 0) 0 100 from ⟨by omega, fun g hg => by omega, fun g hg => by omega⟩)
  clear hM hmk hPB hBX hne g0 g1 g2 g3
  go_wp2_with fail
  refine loop_n (fun m b W => b.defers = [] ∧ ∃ (i : Nat) (F : Nat → Int) (pr : Int), i + m = S.length ∧ Hid (MX w10 W BX PB #[.slice SA S.length sc, .slice (some ⟨PB, 0, none⟩) S.length S.length, .slice OA O.length oc] S.length F) ∧ Hid (PrOk F i pr) ∧ Hid (0 ≤ Gr9.pre (spV S.length O (stockM S)) i ∧ Gr9.pre (spV S.length O (stockM S)) i ≤ 160 * i ∧ 0 ≤ Gr9.pre (gotX (rowsX L)) i ∧ Gr9.pre (gotX (rowsX L)) i ≤ 160 * i) ∧ Fits (none :: some (.slice BA bn bc) :: some (.slice QA qn qc) :: some (.pointer (some ⟨w.heap.size, 0, none⟩)) :: none :: none :: none :: none :: none :: none :: some (.slice (some ⟨tb, 0, none⟩) S.length S.length) :: none :: none :: some (.bool full) :: some (.slice (some ⟨vb, 0, none⟩) S.length S.length) :: some (.pointer (some ⟨BX, 0, none⟩)) :: some (.int .i64 (Gr9.pre (spV S.length O (stockM S)) i)) :: some (.int .i64 (Gr9.pre (gotX (rowsX L)) i)) :: some (.int .i64 pr) :: some (.int .i64 (i : Nat)) :: none :: none :: none :: none :: none :: none :: none :: none :: none :: none :: none :: none :: none :: none :: none :: none :: none :: none :: none :: none :: none :: none :: none :: none :: none :: none :: none :: none :: none :: none :: none :: none :: none :: none :: none :: none :: none :: none :: none :: none :: none :: none :: none :: none :: none :: none :: none :: none :: none :: none :: none :: none :: none :: none :: none :: none :: none :: none :: none :: none :: none :: none :: none :: none :: none :: none :: none :: none :: none :: none :: none :: none :: none :: none :: none :: none :: none :: none :: none :: none :: none :: none :: none :: none :: none :: none :: none :: none :: none :: none :: none :: none :: none :: none :: none :: none :: none :: none :: none :: none :: none :: none :: none :: none :: none :: none :: none :: none :: none :: none :: none :: none :: none :: none :: none :: none :: none :: none :: none :: none :: none :: none :: none :: none :: none :: none :: none :: none :: none :: none :: none :: none :: none :: none :: none :: none :: none :: none :: none :: none :: none :: none :: none :: none :: none :: none :: none :: none :: none :: none :: none :: []) b.tmps.toList) S.length ?_ ?_
  · refine ⟨rfl, 0, _, 100, by omega, HM0, HP0, Lib.hid ⟨Int.le_refl _, Int.le_refl _, Int.le_refl _, Int.le_refl _⟩, ?_⟩
    repeat (first | exact fits_nil | refine fits_none ?_ | refine fits_some ?_)
  clear HM0 HP0
  intro m b W hI K hK
  obtain ⟨hds, i, F, pr, him, HM, HPr, Hpb, hfit⟩ := hI
  obtain ⟨f, hf⟩ := fits_act hfit
  rw [hds] at hf
  subst hf
  clear hfit hds
  simp only [fillP, Nat.reduceAdd]
  have HGl := Lib.hid (HG5.out.later HM.out.be)
  have HTl := Lib.hid (Sl.later HT5.out HM.out.be)
  have HVl := Lib.hid (Sl.later HV5.out HM.out.be)
  obtain ⟨g0, g1, g2, g3⟩ := HGl.out.cells
  by_cases hlt : i < S.length
  · have i1 : (i : Int) < (S.length : Int) := by omega
    have i2 : (0 : Int) ≤ (i : Int) := by omega
    have i3 : IntKind.i64.wrap ((i : Int) + 1) = (i : Int) + 1 := by rw [IntKind.wrap_i64]; omega
    have Him := Lib.hid (show i + m = S.length ∧ i < S.length from ⟨him, hlt⟩)
    obtain ⟨tb2, to2, x, hA, htb, hx, q0⟩ := HTl.out.ltI (i := i) hlt
    cases hA
    obtain ⟨vb2, vo2, z, hA, hvb, hz, q1⟩ := HVl.out.ltI (i := i) hlt
    cases hA
    obtain ⟨sb, so, y, rfl, hsb, hy, q2⟩ := HGl.out.sh.stk.ltI (i := i) hlt
    rw [Nat.zero_add] at q0 q1
    have hxv : x = spV S.length O (stockM S) i := (list_at hx).2
    have hzv : z = gotX (rowsX L) i := (list_at hz).2
    have hst := Hst.out i hlt
    have htk := HTk.out i hlt
    rw [← hxv, stockM_at hy] at hst
    rw [← hzv] at htk
    have hpb := Hpb.out
    have hsx : Gr9.pre (spV S.length O (stockM S)) (i + 1) = Gr9.pre (spV S.length O (stockM S)) i + x := by rw [hxv]; rfl
    have hsz2 : Gr9.pre (gotX (rowsX L)) (i + 1) = Gr9.pre (gotX (rowsX L)) i + z := by rw [hzv]; rfl
    have hful : full = true → Gr9.pre (spV S.length O (stockM S)) (i + 1) ≤ Gr9.pre (gotX (rowsX L)) (i + 1) := fun h => Hfu.out h i hlt
    have hx160 := (spV_bound HF.out.ok hlt).2
    rw [← hxv] at hx160
    rw [hsx, hsz2] at hful
    have Hsx := Lib.hid hsx
    have Hsz2 := Lib.hid hsz2
    generalize Gr9.pre (spV S.length O (stockM S)) i = all at *
    generalize Gr9.pre (gotX (rowsX L)) i = own at *
    have e1 : IntKind.i64.wrap (all + x) = all + x := by rw [IntKind.wrap_i64]; omega
    have e2 : IntKind.i64.wrap (own + z) = own + z := by rw [IntKind.wrap_i64]; omega
    have k1 : ¬ x < 0 := by omega
    have k2 : ¬ y < x := by omega
    have k3 : decide (x < 0) = false := by simp; omega
    have k4 : decide (y < x) = false := by simp; omega
    have Hbn := Lib.hid (show 0 ≤ all + x ∧ all + x ≤ 160 * (i + 1 : Nat) ∧ 0 ≤ own + z ∧ own + z ≤ 160 * (i + 1 : Nat) by omega)
    obtain ⟨ax, hax⟩ : ∃ ax, all + x = ax := ⟨_, rfl⟩
    obtain ⟨oz, hoz⟩ : ∃ oz, own + z = oz := ⟨_, rfl⟩
    rw [hax] at Hsx Hbn hful e1
    rw [hoz] at Hsz2 Hbn hful e2
    have Hful := Lib.hid hful
    have HPp := Lib.hid HPr.out.1
    clear him hlt hx hz hy hxv hzv hst htk hpb hsx hsz2 hx160 hful
    go_wp2_with fail
    refine dag 17 (by kernel_rfl) (by kernel_rfl) (.is ?_ :: .is ?_ :: .is ?_ :: .is ?_ :: .is ?_ :: .is ?_ :: .is ?_ :: .is ?_ :: .is ?_ :: .is ?_ :: .is ?_ :: .is ?_ :: .is ?_ :: .is ?_ :: .is ?_ :: .is ?_ :: .is ?_ :: []) rfl ?st1 ?ob1
    case st1 => simp [Spec.ok]
    case ob1 =>
    intro env V hG
    obtain ⟨hc, hf⟩ := bcell hG
    repeat (refine obls_is ?_ ?_; unfold doesAt; go_simp; (try go_bits); (first | (refine ⟨brefl _, ?_⟩; rfl) | rfl); intro K hK; go_simp; refine hK _ ?_; clear hK K)
    refine obls_nil (fun _ => ?_)
    have q3 := (hc tb i htb).trans q0
    have q4 := (hc vb i hvb).trans q1
    have htb2 := Nat.lt_of_lt_of_le htb hG.size
    have hvb2 := Nat.lt_of_lt_of_le hvb hG.size
    clear hc hf q0 q1 q2 g0 g1 g2 g3 htb hvb
    go_wp2_with fail
    refine dag 14 (by kernel_rfl) (by kernel_rfl) (.is ?_ :: .is ?_ :: .is ?_ :: .is ?_ :: .is ?_ :: .is ?_ :: .is ?_ :: .is ?_ :: .is ?_ :: .is ?_ :: .is ?_ :: .is ?_ :: .is ?_ :: .is ?_ :: []) rfl ?st2 ?ob2
    case st2 => simp [Spec.ok]
    case ob2 =>
    intro env2 V2 hG2
    have HM2 := Lib.hid ((HM.out.later hG).later hG2)
    obtain ⟨hc2, hf2⟩ := bcell hG2
    repeat (refine obls_is ?_ ?_; unfold doesAt; go_simp; (try go_bits); (first | (refine ⟨brefl _, ?_⟩; rfl) | rfl); intro K hK; go_simp; refine hK _ ?_; clear hK K)
    refine obls_nil (fun _ => ?_)
    clear hc2 hf2 hG hG2 q3 q4 HTl HVl HGl
    cases hfv : full with
    | true =>
      rw [hfv] at Hful
      have hle := Hful.out rfl
      have k5 : ¬ oz < ax := by omega
      have k6 : decide (oz < ax) = false := by simp; omega
      clear hle
      by_cases hl2 : i < qn
      case pos =>
        obtain ⟨bb, bo, y2, rfl, hbb, hy2, y0⟩ := (Sl.later HQ5.out HM2.out.be).ltB hl2
        have hyn := Hqd.out y2 (List.mem_of_getElem? hy2)
        obtain ⟨z2, hz2⟩ : ∃ z2, y2 % 40 = z2 := ⟨_, rfl⟩
        have i4 : (i : Int) < (qn : Int) := by omega
        have i5 : decide ((i : Int) < (qn : Int)) = true := decide_eq_true i4
        have e6 : (y2 : Int).tmod 40 = (z2 : Int) := by rw [Int.tmod_eq_emod_of_nonneg (by omega), ← hz2]; rfl
        have hz8 : z2 < 40 := by rw [← hz2]; exact Nat.mod_lt _ (by omega)
        have e7 : IntKind.u8.wrap (z2 : Int) = (z2 : Int) := by rw [IntKind.wrap_u8]; omega
        have e8 : IntKind.i64.wrap (z2 : Int) = (z2 : Int) := by rw [IntKind.wrap_i64]; omega
        have hpr := HPp.out
        obtain ⟨d, hdd⟩ : ∃ d, pr - (z2 : Int) = d := ⟨_, rfl⟩
        have e9 : IntKind.i64.wrap (pr - (z2 : Int)) = d := by rw [IntKind.wrap_i64]; omega
        obtain ⟨p2, hp2⟩ : ∃ p2, (if 0 < d then d else 0) = p2 := ⟨_, rfl⟩
        have HPn := Lib.hid (HPr.out.next (q := p2) (by rw [← hp2]; split <;> omega) (by rw [← hp2]; split <;> omega))
        have c0 := (HM2.out.pb.cell i).trans (numArr_get Him.out.2)
        have c1 := HM2.out.pb.frozen i
        have c2 := HM2.out.pb.lt
        have c3 := HM2.out.xb.cell 1
        have c4 := HM2.out.xb.lt
        have HMf := Lib.hid (HM2.out.set HPB.out.1 HPB.out.2 i p2)
        clear hl2 hyn hy2 hz2 hz8 hpr hdd
        go_wp2_with fail
        refine hK _ _ (m - 1) (by have := Him.out; omega) ⟨rfl, i + 1, _, p2, by have := Him.out; omega, HMf, HPn, by rw [Hsx.out, Hsz2.out]; exact Hbn, ?_⟩
        rw [Hsx.out, Hsz2.out, hfv]
        repeat (first | exact fits_nil | refine fits_none ?_ | refine fits_some ?_)
      case neg =>
        have i4 : ¬ (i : Int) < (qn : Int) := by omega
        have i5 : decide ((i : Int) < (qn : Int)) = false := decide_eq_false i4
        have HPn := Lib.hid (HPr.out.next (q := pr) HPp.out.1 (Int.le_refl _))
        have c0 := (HM2.out.pb.cell i).trans (numArr_get Him.out.2)
        have c1 := HM2.out.pb.frozen i
        have c2 := HM2.out.pb.lt
        have c3 := HM2.out.xb.cell 1
        have c4 := HM2.out.xb.lt
        have HMf := Lib.hid (HM2.out.set HPB.out.1 HPB.out.2 i pr)
        clear hl2
        go_wp2_with fail
        refine hK _ _ (m - 1) (by have := Him.out; omega) ⟨rfl, i + 1, _, pr, by have := Him.out; omega, HMf, HPn, by rw [Hsx.out, Hsz2.out]; exact Hbn, ?_⟩
        rw [Hsx.out, Hsz2.out, hfv]
        repeat (first | exact fits_nil | refine fits_none ?_ | refine fits_some ?_)
    | false =>
      by_cases hl2 : i < qn
      case pos =>
        obtain ⟨bb, bo, y2, rfl, hbb, hy2, y0⟩ := (Sl.later HQ5.out HM2.out.be).ltB hl2
        have hyn := Hqd.out y2 (List.mem_of_getElem? hy2)
        obtain ⟨z2, hz2⟩ : ∃ z2, y2 % 40 = z2 := ⟨_, rfl⟩
        have i4 : (i : Int) < (qn : Int) := by omega
        have i5 : decide ((i : Int) < (qn : Int)) = true := decide_eq_true i4
        have e6 : (y2 : Int).tmod 40 = (z2 : Int) := by rw [Int.tmod_eq_emod_of_nonneg (by omega), ← hz2]; rfl
        have hz8 : z2 < 40 := by rw [← hz2]; exact Nat.mod_lt _ (by omega)
        have e7 : IntKind.u8.wrap (z2 : Int) = (z2 : Int) := by rw [IntKind.wrap_u8]; omega
        have e8 : IntKind.i64.wrap (z2 : Int) = (z2 : Int) := by rw [IntKind.wrap_i64]; omega
        have hpr := HPp.out
        obtain ⟨d, hdd⟩ : ∃ d, pr - (z2 : Int) = d := ⟨_, rfl⟩
        have e9 : IntKind.i64.wrap (pr - (z2 : Int)) = d := by rw [IntKind.wrap_i64]; omega
        obtain ⟨p2, hp2⟩ : ∃ p2, (if 0 < d then d else 0) = p2 := ⟨_, rfl⟩
        have HPn := Lib.hid (HPr.out.next (q := p2) (by rw [← hp2]; split <;> omega) (by rw [← hp2]; split <;> omega))
        have c0 := (HM2.out.pb.cell i).trans (numArr_get Him.out.2)
        have c1 := HM2.out.pb.frozen i
        have c2 := HM2.out.pb.lt
        have c3 := HM2.out.xb.cell 1
        have c4 := HM2.out.xb.lt
        have HMf := Lib.hid (HM2.out.set HPB.out.1 HPB.out.2 i p2)
        clear hl2 hyn hy2 hz2 hz8 hpr hdd
        go_wp2_with fail
        refine hK _ _ (m - 1) (by have := Him.out; omega) ⟨rfl, i + 1, _, p2, by have := Him.out; omega, HMf, HPn, by rw [Hsx.out, Hsz2.out]; exact Hbn, ?_⟩
        rw [Hsx.out, Hsz2.out, hfv]
        repeat (first | exact fits_nil | refine fits_none ?_ | refine fits_some ?_)
      case neg =>
        have i4 : ¬ (i : Int) < (qn : Int) := by omega
        have i5 : decide ((i : Int) < (qn : Int)) = false := decide_eq_false i4
        have HPn := Lib.hid (HPr.out.next (q := pr) HPp.out.1 (Int.le_refl _))
        have c0 := (HM2.out.pb.cell i).trans (numArr_get Him.out.2)
        have c1 := HM2.out.pb.frozen i
        have c2 := HM2.out.pb.lt
        have c3 := HM2.out.xb.cell 1
        have c4 := HM2.out.xb.lt
        have HMf := Lib.hid (HM2.out.set HPB.out.1 HPB.out.2 i pr)
        clear hl2
        go_wp2_with fail
        refine hK _ _ (m - 1) (by have := Him.out; omega) ⟨rfl, i + 1, _, pr, by have := Him.out; omega, HMf, HPn, by rw [Hsx.out, Hsz2.out]; exact Hbn, ?_⟩
        rw [Hsx.out, Hsz2.out, hfv]
        repeat (first | exact fits_nil | refine fits_none ?_ | refine fits_some ?_)
  · obtain rfl : i = S.length := by omega
    have i1 : ¬ (S.length : Int) < (S.length : Int) := by omega
    have hFp := fine_prices HF.out HPr.out
    have hpb := HM.out.pb
    rw [numArr_eq] at hpb
    have HO0 := Lib.hid (show GW w W BX SA S.length sc (some ⟨PB, 0, none⟩) S.length S.length OA O.length oc S ((List.range S.length).map F) O from ⟨HGl.out.bel, HM.out.xb, ⟨HGl.out.sh.stk, lit_sl hpb hpb.lt (by simp) (by omega), HGl.out.sh.ord⟩⟩)
    have HT0 := Lib.hid (HTl.out)
    generalize (List.range S.length).map F = P2 at *
    have he2 := fine_iff hFp
    have Hl2 := Lib.hid (fun W (h : ShopIn W W.heap.size SA S.length sc (some ⟨PB, 0, none⟩) S.length S.length OA O.length oc S P2 O) => least_ok SA S.length sc (some ⟨PB, 0, none⟩) S.length S.length OA O.length oc S P2 O W h he2 Hc.out)
    have Hs2 := Lib.hid (fun W (h : ShopIn W W.heap.size SA S.length sc (some ⟨PB, 0, none⟩) S.length S.length OA O.length oc S P2 O) => spentA_ok SA S.length sc (some ⟨PB, 0, none⟩) S.length S.length OA O.length oc S P2 O W h (filE_ok he2 Hc.out))
    have Hco := Lib.hid (fun A c W (h : ShopIn W W.heap.size SA S.length sc (some ⟨PB, 0, none⟩) S.length S.length OA O.length oc S P2 O) (hl : Sl 1 encI W W.heap.size A S.length c (spL S.length O (stockM S))) => refCost_any SA S.length sc (some ⟨PB, 0, none⟩) S.length S.length OA O.length oc S P2 O W h A S.length c _ hl (by have := hFp.len; omega) (by have := hFp.len; omega) hFp.prc (spL_bound hFp.ok))
    rw [costX_sp] at Hco
    generalize leV S.length P2 O (stockM S) = n2 at *
    clear him hlt hK hpb HM HPr Hpb HGl HTl HVl g0 g1 g2 g3 hFp he2
    obtain ⟨o0, o1, o2, o3⟩ := HO0.out.cells
    go_wp2_with fail
    refine (Hl2.out _ HO0.out.sh).mono ?_
    rintro e w11 ⟨X, rfl, hb, hX⟩
    have HO1 := Lib.hid (HO0.out.later hb)
    have HT1 := Lib.hid (HT0.out.later hb)
    clear hb HO0 HT0 o0 o1 o2 o3
    obtain ⟨o0, o1, o2, o3⟩ := HO1.out.cells
    clear hX X
    go_wp2_with fail
    refine (Hs2.out _ HO1.out.sh).mono ?_
    rintro e w12 ⟨ub, rfl, hb, hsl⟩
    have HO2 := Lib.hid (HO1.out.later hb)
    have HT2 := Lib.hid (HT1.out.later hb)
    clear hb HO1 HT1 o0 o1 o2 o3
    obtain ⟨o0, o1, o2, o3⟩ := HO2.out.cells
    have HU2 := Lib.hid hsl
    clear hsl
    go_wp2_with fail
    refine (eqL HU2.out HT2.out).mono ?_
    rintro e w13 ⟨rfl, hb⟩
    have HO3 := Lib.hid (HO2.out.later hb)
    have HT3 := Lib.hid (HT2.out.later hb)
    have HU3 := Lib.hid (HU2.out.later hb)
    clear hb HO2 HT2 HU2 o0 o1 o2 o3
    obtain ⟨o0, o1, o2, o3⟩ := HO3.out.cells
    go_wp2_with fail
    refine (Hco.out _ _ _ HO3.out.sh HT3.out).mono ?_
    rintro e w14 ⟨rfl, hb⟩
    have HO4 := Lib.hid (HO3.out.later hb)
    have HT4 := Lib.hid (HT3.out.later hb)
    have HU4 := Lib.hid (HU3.out.later hb)
    clear hb HO3 HT3 HU3 o0 o1 o2 o3
    obtain ⟨o0, o1, o2, o3⟩ := HO4.out.cells
    go_wp2_with fail
    refine (works_any _).mono ?_
    rintro e we ⟨rfl, hbe⟩
    have HBE := Lib.hid (Below.later HO4.out.bel hbe)
    clear hbe
    go_wp2
    go_ret
    exact ⟨rfl, HBE.out⟩
end Go.Proofs.Ytmfiggbobaihcaa
