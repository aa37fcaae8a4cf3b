/- The walk of GradeWorth. -/
import Derived.Test.YtmfiggbobaihcaaGFilled
namespace Go.Proofs.Ytmfiggbobaihcaa
open Go.RowKit Go.Shelf

/-- A number of a grade, out of any byte. -/
theorem at_mod {u : Int} {n : Nat} (hu : 0 ≤ u ∧ u ≤ 255) (hn : 0 < n) : 0 ≤ u.tmod (n : Int) ∧ u.tmod (n : Int) < (n : Int) := by
  rw [Int.tmod_eq_emod_of_nonneg hu.1]
  exact ⟨Int.emod_nonneg u (by omega), Int.emod_lt_of_pos u (by omega)⟩
/-- What Worth returns, of a fine shop. -/
theorem worthR_in {S P : List Int} {O : List Od} (he : shopE S P O = 0) {g : Nat} (hg : g < S.length) : worthR S P O (g : Int) = if filE S P O ≠ 0 then (0, filE S P O) else (woV S.length P O (stockM S) g, 0) := by
  unfold worthR
  rw [if_neg (fun h => h he), show inR 0 ((S.length : Int) - 1) (g : Int) = true by unfold inR; simp; omega]
  rfl
set_option maxRecDepth 100000 in
set_option maxHeartbeats 8000000 in
theorem worth_law (SA : Option Addr) (sn sc : Nat) (PA : Option Addr) (pn pc : Nat) (OA : Option Addr) (on oc : Nat) (S P : List Int) (O : List Od) (u1 u2 : Int) (w : World) (hs : ShopIn w w.heap.size SA sn sc PA pn pc OA on oc S P O) (hu1 : 0 ≤ u1 ∧ u1 ≤ 255) (hu2 : 0 ≤ u2 ∧ u2 ≤ 255) : Calls Try.prog 10 #[.agg #[.slice SA sn sc, .slice PA pn pc, .slice OA on oc], .int .u8 u1, .int .u8 u2] w fun e w' => e = .returned (.bool true) ∧ Below w.heap.size w w' := by
  have Hs := Lib.hid hs
  obtain rfl := hs.stk.len
  obtain rfl := hs.prc.len
  obtain rfl := hs.ord.len
  have HG0 := Lib.hid (GW.start hs)
  obtain ⟨g0, g1, g2, g3⟩ := HG0.out.cells
  have Hf := Lib.hid (fun W (h : ShopIn W W.heap.size SA S.length sc PA P.length pc OA O.length oc S P O) => fine_any SA S.length sc PA P.length pc OA O.length oc S P O W h)
  by_cases he : shopE S P O = 0
  case neg =>
    rw [decide_eq_false he] at Hf
    clear hs he hu1 hu2 Hs
    go_enter Try.func10, Try.ntmps10
    go_wp2_with fail
    refine (Hf.out _ HG0.out.sh).mono ?_
    rintro e w1 ⟨rfl, hb⟩
    have HG1 := Lib.hid (HG0.out.later hb)
    clear hb HG0 g0 g1 g2 g3
    obtain ⟨g0, g1, g2, g3⟩ := HG1.out.cells
    go_wp2_with fail
    refine (works_any _).mono ?_
    rintro e we ⟨rfl, hbe⟩
    have HBE := Lib.hid (Below.later HG1.out.bel hbe)
    clear hbe
    go_wp2
    go_ret
    exact ⟨rfl, HBE.out⟩
  case pos =>
  rw [decide_eq_true he] at Hf
  have hF := fine_of he
  have n5 := hF.n5
  have n1 := hF.n1
  have HF := Lib.hid hF
  have s0 : (0 : Int) < (S.length : Int) := by omega
  have Hwt := Lib.hid (fun (g : Nat) W (h : ShopIn W W.heap.size SA S.length sc PA P.length pc OA O.length oc S P O) => worthA_any SA S.length sc PA P.length pc OA O.length oc S P O W h (g : Int))
  cases hc : canB S.length O (stockM S) with
  | false =>
    have Hl := Lib.hid (fun W (h : ShopIn W W.heap.size SA S.length sc PA P.length pc OA O.length oc S P O) => least_no SA S.length sc PA P.length pc OA O.length oc S P O W h he hc)
    have Hw0 := Lib.hid (Hwt.out 0)
    rw [worthR_in he (by omega), filE_no he hc] at Hw0
    clear hs he hF hu1 hu2 hc Hwt
    go_enter Try.func10, Try.ntmps10
    go_wp2_with fail
    refine (Hf.out _ HG0.out.sh).mono ?_
    rintro e w2 ⟨rfl, hb⟩
    have HG1 := Lib.hid (HG0.out.later hb)
    clear hb HG0 g0 g1 g2 g3
    obtain ⟨g0, g1, g2, g3⟩ := HG1.out.cells
    go_wp2_with fail
    refine (Hl.out _ HG1.out.sh).mono ?_
    rintro e w3 ⟨rfl, hb⟩
    have HG2 := Lib.hid (HG1.out.later hb)
    clear hb HG1 g0 g1 g2 g3
    obtain ⟨g0, g1, g2, g3⟩ := HG2.out.cells
    go_wp2_with fail
    refine loop_n (fun m b W => b.defers = [] ∧ Hid (GW w W w.heap.size SA S.length sc PA P.length pc OA O.length oc S P O) ∧ Fits (none :: none :: none :: some (.pointer (some ⟨w.heap.size, 0, none⟩)) :: none :: none :: none :: some (.int .i64 0) :: some (.bool false) :: some (.bool true) :: none :: some (.int .i64 0) :: none :: none :: none :: none :: none :: none :: none :: none :: none :: none :: none :: none :: none :: none :: none :: none :: none :: none :: none :: none :: none :: none :: none :: none :: none :: none :: none :: none :: none :: none :: none :: none :: none :: none :: none :: none :: none :: none :: none :: none :: none :: none :: none :: none :: none :: none :: none :: none :: none :: none :: none :: none :: none :: none :: none :: none :: none :: none :: none :: none :: none :: none :: none :: none :: none :: none :: none :: none :: none :: none :: none :: none :: none :: none :: none :: none :: none :: none :: none :: none :: none :: none :: none :: none :: none :: none :: none :: none :: none :: none :: none :: none :: none :: none :: none :: none :: none :: none :: none :: none :: none :: none :: none :: none :: none :: none :: none :: none :: none :: none :: none :: none :: none :: none :: none :: []) b.tmps.toList) 1 ?_ ?_
    · refine ⟨rfl, HG2, ?_⟩
      repeat (first | exact fits_nil | refine fits_none ?_ | refine fits_some ?_)
    clear g0 g1 g2 g3 HG2
    intro m b W hI K hK
    obtain ⟨hds, HG0, hfit⟩ := hI
    obtain ⟨f, hf⟩ := fits_act hfit
    rw [hds] at hf
    subst hf
    clear hfit hds hK
    simp only [fillP, Nat.reduceAdd]
    obtain ⟨g0, g1, g2, g3⟩ := HG0.out.cells
    go_wp2_with fail
    refine (Hw0.out _ HG0.out.sh).mono ?_
    rintro e w4 ⟨rfl, hb⟩
    have HG1 := Lib.hid (HG0.out.later hb)
    clear hb HG0 g0 g1 g2 g3
    obtain ⟨g0, g1, g2, g3⟩ := HG1.out.cells
    go_wp2_with fail
    refine (works_any _).mono ?_
    rintro e we ⟨rfl, hbe⟩
    have HBE := Lib.hid (Below.later HG1.out.bel hbe)
    clear hbe
    go_wp2
    go_ret
    exact ⟨rfl, HBE.out⟩
  | true =>
  have Hl := Lib.hid (fun W (h : ShopIn W W.heap.size SA S.length sc PA P.length pc OA O.length oc S P O) => least_ok SA S.length sc PA P.length pc OA O.length oc S P O W h he hc)
  have Hpf := Lib.hid (fun A n c W (h : ShopIn W W.heap.size SA S.length sc PA P.length pc OA O.length oc S P O) (hl : Sl 1 encI W W.heap.size A n c (woL S.length P O (stockM S))) => checkProof_all SA S.length sc PA P.length pc OA O.length oc S P O A n c _ W h hl)
  rw [wo_R he] at Hpf
  have Hwg := Lib.hid (fun g (hg : g < S.length) => (show worthR S P O (g : Int) = (woV S.length P O (stockM S) g, 0) by rw [worthR_in he hg, filE_ok he hc]; rfl))
  generalize leV S.length P O (stockM S) = nv at *
  have hm1 := at_mod hu1 n1
  have hm2 := at_mod hu2 n1
  have hv1 : IntKind.i64.wrap u1 = u1 := by rw [IntKind.wrap_i64]; omega
  have hv2 : IntKind.i64.wrap u2 = u2 := by rw [IntKind.wrap_i64]; omega
  obtain ⟨a, ha⟩ : ∃ a, u1.tmod (S.length : Int) = a := ⟨_, rfl⟩
  obtain ⟨b2, hb2⟩ : ∃ b2, u2.tmod (S.length : Int) = b2 := ⟨_, rfl⟩
  rw [ha] at hm1
  rw [hb2] at hm2
  have hv3 : IntKind.i64.wrap a = a := by rw [IntKind.wrap_i64]; omega
  have hv4 : IntKind.i64.wrap b2 = b2 := by rw [IntKind.wrap_i64]; omega
  obtain ⟨lo, hlo⟩ : ∃ lo : Nat, (if b2 < a then b2 else a) = (lo : Int) := ⟨(if b2 < a then b2 else a).toNat, by split <;> omega⟩
  obtain ⟨hi, hhi⟩ : ∃ hi : Nat, (if a < b2 then b2 else a) = (hi : Int) := ⟨(if a < b2 then b2 else a).toNat, by split <;> omega⟩
  have Hlh := Lib.hid (show lo ≤ hi ∧ hi < S.length by split at hlo <;> split at hhi <;> omega)
  have Hnum := Lib.hid (show u1.tmod (S.length : Int) = a ∧ u2.tmod (S.length : Int) = b2 ∧ IntKind.i64.wrap u1 = u1 ∧ IntKind.i64.wrap u2 = u2 ∧ IntKind.i64.wrap a = a ∧ IntKind.i64.wrap b2 = b2 ∧ (if b2 < a then b2 else a) = (lo : Int) ∧ (if a < b2 then b2 else a) = (hi : Int) from ⟨ha, hb2, hv1, hv2, hv3, hv4, hlo, hhi⟩)
  clear hs he hF hu1 hu2 hc hm1 hm2 ha hb2 hv1 hv2 hv3 hv4 hlo hhi
  go_enter Try.func10, Try.ntmps10
  go_wp2_with fail
  refine (Hf.out _ HG0.out.sh).mono ?_
  rintro e w5 ⟨rfl, hb⟩
  have HG1 := Lib.hid (HG0.out.later hb)
  clear hb HG0 g0 g1 g2 g3
  obtain ⟨g0, g1, g2, g3⟩ := HG1.out.cells
  go_wp2_with fail
  refine (Hl.out _ HG1.out.sh).mono ?_
  rintro e w6 ⟨X, rfl, hb, hX⟩
  have HG2 := Lib.hid (HG1.out.later hb)
  clear hb HG1 g0 g1 g2 g3
  obtain ⟨g0, g1, g2, g3⟩ := HG2.out.cells
  clear hX X
  have HW0 := Lib.hid (show SPW w w6 SA S.length sc PA P.length pc OA O.length oc S P O (.slice none 0 0) [] from ⟨HG2.out, World.ownsRow_nil _ _ _ _⟩)
  go_wp2_with fail
  refine loop_n (fun m b W => b.defers = [] ∧ ∃ (i : Nat) (v : Value), i + m = S.length ∧ Hid (SPW w W SA S.length sc PA P.length pc OA O.length oc S P O v ((List.range i).map (woV S.length P O (stockM S)))) ∧ Fits (none :: some (.int .u8 u1) :: some (.int .u8 u2) :: some (.pointer (some ⟨w.heap.size, 0, none⟩)) :: none :: none :: none :: some (.int .i64 nv) :: some (.bool true) :: some (.bool true) :: some (v) :: some (.int .i64 (i : Nat)) :: none :: none :: none :: none :: none :: none :: none :: none :: none :: none :: none :: none :: none :: none :: none :: none :: none :: none :: none :: none :: none :: none :: none :: none :: none :: none :: none :: none :: none :: none :: none :: none :: none :: none :: none :: none :: none :: none :: none :: none :: none :: none :: none :: none :: none :: none :: none :: none :: none :: none :: none :: none :: none :: none :: none :: none :: none :: none :: none :: none :: none :: none :: none :: none :: none :: none :: none :: none :: none :: none :: none :: none :: none :: none :: none :: none :: none :: none :: none :: none :: none :: none :: none :: none :: none :: none :: none :: none :: none :: none :: none :: none :: none :: none :: none :: none :: none :: none :: none :: none :: none :: none :: none :: none :: none :: none :: none :: none :: none :: none :: none :: none :: none :: none :: none :: []) b.tmps.toList) S.length ?_ ?_
  · refine ⟨rfl, 0, _, by omega, HW0, ?_⟩
    repeat (first | exact fits_nil | refine fits_none ?_ | refine fits_some ?_)
  clear HW0 g0 g1 g2 g3 HG2
  intro m b W hI K hK
  obtain ⟨hds, i, v, him, HW0, hfit⟩ := hI
  obtain ⟨f, hf⟩ := fits_act hfit
  rw [hds] at hf
  subst hf
  clear hfit hds
  simp only [fillP, Nat.reduceAdd]
  have HG0 := Lib.hid HW0.out.gw
  obtain ⟨g0, g1, g2, g3⟩ := HG0.out.cells
  by_cases hlt : i < S.length
  · have i1 : (i : Int) < (S.length : Int) := by omega
    have i2 : (0 : Int) ≤ (i : Int) := by omega
    have i3 : IntKind.i64.wrap ((i : Int) + 1) = (i : Int) + 1 := by rw [IntKind.wrap_i64]; omega
    have Him := Lib.hid (show i + m = S.length ∧ i < S.length from ⟨him, hlt⟩)
    have Hwi := Lib.hid (Hwt.out i)
    rw [Hwg.out i hlt] at Hwi
    have hwb := wo_bound HF.out.ok hlt
    have hpg := HF.out.ok.pr0 i hlt
    have HT := Lib.hid (show (List.range (i + 1)).map (woV S.length P O (stockM S)) = (List.range i).map (woV S.length P O (stockM S)) ++ [woV S.length P O (stockM S) i] by rw [List.range_succ, List.map_append]; rfl)
    have Hxl := Lib.hid (show ((List.range i).map (woV S.length P O (stockM S))).length = i by simp)
    generalize woV S.length P O (stockM S) i = x at *
    generalize (List.range i).map (woV S.length P O (stockM S)) = xs at *
    have hp0 : 0 < P.length := by have := HF.out.len; omega
    have hx1 : ¬ x < 0 := by omega
    have hxp : x ≤ prM P 0 := by omega
    clear him hlt hwb hpg
    go_wp2_with fail
    refine (Hwi.out _ HG0.out.sh).mono ?_
    rintro e w7 ⟨rfl, hb⟩
    have HG1 := Lib.hid (HG0.out.later hb)
    have HW1 := Lib.hid (HW0.out.later hb)
    clear hb HG0 HW0 g0 g1 g2 g3
    obtain ⟨g0, g1, g2, g3⟩ := HG1.out.cells
    obtain ⟨pb, po, y, rfl, hpb, hy, y0⟩ := (HG1.out.sh.prc).ltI (i := 0) hp0
    have hx2 : ¬ y < x := by
      have : prM P 0 = y := sl_getD hy
      omega
    have hp1 : (0 : Int) < (P.length : Int) := by omega
    rw [Nat.add_zero] at y0
    obtain ⟨i0, hi0, hz0, hz1, hz2⟩ := info_parts info_long
    have HRa := Lib.hid (HW1.out.later (balloc (brefl w7) (.cells #[.int .i64 x] 2)))
    have hi5 : xs.length ≤ 5 := by have := Him.out; have := Hxl.out; omega
    have hsz := HG1.out.b0.lt
    clear hy hxp HW1
    go_wp2_with (at_builtin; refine wpList_append_own _ rfl _ _ 22 rfl (w.heap.size + 1) 2 i0 (.int .i64 0) 1 8 und_longs hi0 hz0 hz1 hz2 rfl (by decide) v xs.length _ rfl HRa.out.own ⟨w7.heap.size, 0, none⟩ 1 1 [.int .i64 x] rfl rfl (one_new _ _ _) (by simp [Value.oneCell']) (by simp only [maxLen]; omega) (by omega) (by simp; omega) ?_; intro v' W3 hown' hgr _; have HR4 := Lib.hid (HRa.out.app Hs.out hgr hown'); clear hown' hgr)
    refine hK _ _ (m - 1) (by have := Him.out; omega) ⟨rfl, i + 1, v', by have := Him.out; omega, by rw [HT.out]; exact HR4, ?_⟩
    repeat (first | exact fits_nil | refine fits_none ?_ | refine fits_some ?_)
  · obtain rfl : i = S.length := by omega
    have i1 : ¬ (S.length : Int) < (S.length : Int) := by omega
    have hl : ((List.range S.length).map (woV S.length P O (stockM S))).length = S.length := by simp
    obtain ⟨A, c, rfl, hsl⟩ := own_slI HW0.out.own rfl
    rw [hl] at hsl ⊢
    have HL0 := Lib.hid (show Sl 1 encI W W.heap.size A S.length c (woL S.length P O (stockM S)) from hsl)
    clear hsl hK him hlt hl HW0
    go_wp2_with fail
    refine (Hpf.out _ _ _ _ HG0.out.sh HL0.out).mono ?_
    rintro e w8 ⟨rfl, hb⟩
    have HG1 := Lib.hid (HG0.out.later hb)
    have HL1 := Lib.hid (HL0.out.later hb)
    clear hb HG0 HL0 g0 g1 g2 g3
    obtain ⟨g0, g1, g2, g3⟩ := HG1.out.cells
    obtain ⟨hv1, hv2, hv3, hv4, hv5, hv6, hv7, hv8⟩ := Hnum.out
    have hn0 : ¬ (S.length : Int) = 0 := by omega
    have hn1 : ¬ S = [] := fun e => by rw [e] at n1; simp at n1
    go_wp2_with fail
    refine dag 12 (by kernel_rfl) (by kernel_rfl) (.is ?_ :: .is ?_ :: .is ?_ :: .is ?_ :: .is ?_ :: .is ?_ :: .is ?_ :: .is ?_ :: .is ?_ :: .is ?_ :: .is ?_ :: .is ?_ :: []) rfl ?st1 ?ob1
    case st1 => simp [Spec.ok]
    case ob1 =>
    intro env V hG
    obtain ⟨hc, hf⟩ := bcell hG
    have HG9 := Lib.hid (HG1.out.later hG)
    have HL9 := Lib.hid (Sl.later HL1.out hG)
    clear hG
    repeat (refine obls_is ?_ ?_; unfold doesAt; go_simp; (try go_bits); (first | (refine ⟨brefl _, ?_⟩; rfl) | rfl); intro K hK; go_simp; refine hK _ ?_; clear hK K)
    refine obls_nil (fun _ => ?_)
    clear hc hf HG1 HL1 g0 g1 g2 g3
    obtain ⟨g0, g1, g2, g3⟩ := HG9.out.cells
    obtain ⟨lb, lo1, x1, rfl, hlb, hx1, q1⟩ := HL9.out.ltI (i := lo) (by have := Hlh.out; omega)
    obtain ⟨lb2, lo2, x2, hA2, -, hx2, q2⟩ := HL9.out.ltI (i := hi) (by have := Hlh.out; omega)
    simp only [Option.some.injEq, Addr.mk.injEq, and_true] at hA2
    obtain ⟨rfl, rfl⟩ := hA2
    obtain ⟨pb, po, y1, rfl, hpb, hy1, q3⟩ := HG9.out.sh.prc.ltI (i := lo) (by have := Hlh.out; have := HF.out.len; omega)
    obtain ⟨pb2, po2, y2, hA2, -, hy2, q4⟩ := HG9.out.sh.prc.ltI (i := hi) (by have := Hlh.out; have := HF.out.len; omega)
    simp only [Option.some.injEq, Addr.mk.injEq, and_true] at hA2
    obtain ⟨rfl, rfl⟩ := hA2
    have hmo := wo_mono HF.out.ok Hlh.out.1 Hlh.out.2
    have hw1 := wo_in HF.out x1 (List.mem_of_getElem? hx1)
    have hw2 := wo_in HF.out x2 (List.mem_of_getElem? hx2)
    have hw3 := HF.out.prc y1 (List.mem_of_getElem? hy1)
    have hw4 := HF.out.prc y2 (List.mem_of_getElem? hy2)
    rw [show prM P lo = y1 from sl_getD hy1, show prM P hi = y2 from sl_getD hy2, ← woL_at Hlh.out.2, ← woL_at (g := lo) (by have := Hlh.out; omega), sl_getD hx1, sl_getD hx2] at hmo
    have e1 : IntKind.i64.wrap (y1 - y2) = y1 - y2 := by rw [IntKind.wrap_i64]; omega
    have e2 : IntKind.i64.wrap (x2 - (y1 - y2)) = x2 - (y1 - y2) := by rw [IntKind.wrap_i64]; omega
    have e3 : x2 - (y1 - y2) ≤ x1 := by omega
    have k1 : (lo : Int) < (S.length : Int) := by have := Hlh.out; omega
    have k2 : (hi : Int) < (S.length : Int) := by have := Hlh.out; omega
    have k3 : (lo : Int) < (P.length : Int) := by have := HF.out.len; omega
    have k4 : (hi : Int) < (P.length : Int) := by have := HF.out.len; omega
    have k5 : (0 : Int) ≤ (lo : Int) := by omega
    have k6 : (0 : Int) ≤ (hi : Int) := by omega
    clear hx1 hx2 hy1 hy2 hmo hw1 hw2 hw3 hw4
    go_wp2_with fail
    refine dag 34 (by kernel_rfl) (by kernel_rfl) (.is ?_ :: .is ?_ :: .is ?_ :: .is ?_ :: .is ?_ :: .is ?_ :: .is ?_ :: .is ?_ :: .is ?_ :: .is ?_ :: .is ?_ :: .is ?_ :: .is ?_ :: .is ?_ :: .is ?_ :: .is ?_ :: .is ?_ :: .is ?_ :: .is ?_ :: .is ?_ :: .is ?_ :: .is ?_ :: .is ?_ :: .is ?_ :: .is ?_ :: .is ?_ :: .is ?_ :: .is ?_ :: .is ?_ :: .is ?_ :: .is ?_ :: .is (.bool true) :: .is ?_ :: .is ?_ :: []) rfl ?st2 ?ob2
    case st2 => simp [Spec.ok]
    case ob2 =>
    intro env2 V2 hG2
    obtain ⟨hc, hf⟩ := bcell hG2
    have HGn := Lib.hid (HG9.out.later hG2)
    clear hG2
    iterate 31 (refine obls_is ?_ ?_; unfold doesAt; go_simp; (try go_bits); (first | (refine ⟨brefl _, ?_⟩; rfl) | rfl); intro K hK; go_simp; refine hK _ ?_; clear hK K)
    refine obls_is ?_ ?_
    · unfold doesAt
      go_simp
      refine (works_any V2).mono ?_
      rintro e w1 ⟨rfl, hb1⟩
      (exact ⟨rfl, hb1⟩)
    intro K hK
    go_simp
    refine hK _ ?_
    clear hK K
    repeat (refine obls_is ?_ ?_; unfold doesAt; go_simp; (try go_bits); (first | (refine ⟨brefl _, ?_⟩; rfl) | rfl); intro K hK; go_simp; refine hK _ ?_; clear hK K)
    refine obls_nil (fun _ => ?_)
    go_wp2_with fail
    go_ret
    exact ⟨rfl, HGn.out.bel⟩
end Go.Proofs.Ytmfiggbobaihcaa
