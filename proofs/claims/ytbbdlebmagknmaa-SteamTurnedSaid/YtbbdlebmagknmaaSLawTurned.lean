/- The walk of SteamTurned. -/
import Derived.Test.YtbbdlebmagknmaaSRefE
namespace Go.Proofs.Ytbbdlebmagknmaa
open Go.RowKit Go.Shelf

theorem la_back {rs : List Rg} {L : Nat} {hh hb : List Int} (hy : yardE (L : Int) rs = 0) (h1 : hoursE (L : Int) rs hh = 0) (h2 : hoursV (L : Int) rs hh = LA rs L 101) (h3 : hoursE (L : Int) (backP rs) hb = 0) (h4 : hoursV (L : Int) (backP rs) hb = LA (backP rs) L 101) : LA (backP rs) L 101 = LA rs L 101 := by
  obtain ⟨hL, hr⟩ := yard_ok hy
  obtain ⟨a1, a2, a3⟩ := hours_of h1
  obtain ⟨b1, b2, b3⟩ := hours_of h3
  apply Int.le_antisymm
  · exact la_back_le hr (by omega) a1 a2 (a3.symm.trans h2)
  · have h := la_back_le (back_ok hr) (by omega) b1 b2 (b3.symm.trans h4)
    rwa [back_back] at h
/-- While both lists are compared. -/
structure TL (w W : World) (GA GB : Option Addr) (m da db : Nat) (es bs : List Int) : Prop where
  bel : Below w.heap.size w W
  sa : Sl 1 encI W W.heap.size GA m da es
  sb : Sl 1 encI W W.heap.size GB m db bs
theorem TL.later {w W W' : World} {GA GB : Option Addr} {m da db : Nat} {es bs : List Int} (h : TL w W GA GB m da db es bs) (hb : Below W.heap.size W W') : TL w W' GA GB m da db es bs := ⟨Below.later h.bel hb, h.sa.later hb, h.sb.later hb⟩
set_option maxRecDepth 100000 in
set_option maxHeartbeats 4000000 in
theorem turned_law (L : Int) (A : Option Addr) (n c : Nat) (rs : List Rg) (w : World) (hs : Sl 2 encR w w.heap.size A n c rs) :
    Calls Try.prog 10 #[.agg #[.int .i64 L, .slice A n c]] w fun e w' => e = .returned (.bool true) ∧ Below w.heap.size w w' := by
  have hB := balloc (brefl w) (.cells #[.int .i64 L, .slice A n c] 24)
  have HK0 := Lib.hid (show LW w (w.alloc (.cells #[.int .i64 L, .slice A n c] 24)) w.heap.size L A n c rs from ⟨hB, Blk.new w _ _, hs.later hB⟩)
  clear hB
  obtain ⟨c0, c1, c2⟩ := HK0.out.cells
  by_cases hy : yardE L rs = 0
  case neg =>
    have Hf := Lib.hid (fun W (h : Sl 2 encR W W.heap.size A n c rs) => fine_bad L A n c rs W h hy)
    clear hs hy
    go_enter Try.func10, Try.ntmps10
    go_wp2_with fail
    refine (Hf.out _ HK0.out.sl).mono ?_
    rintro e w1 ⟨rfl, hb⟩
    have HK1 := Lib.hid (HK0.out.later hb)
    clear hb HK0 c0 c1 c2
    obtain ⟨c0, c1, c2⟩ := HK1.out.cells
    go_wp2_with fail
    refine (works_any _).mono ?_
    rintro e we ⟨rfl, hbe⟩
    have HBE := Lib.hid (Below.later HK1.out.bel hbe)
    clear hbe
    go_wp2
    go_ret
    exact ⟨rfl, HBE.out⟩
  case pos =>
  have Hf := Lib.hid (fun W (h : Sl 2 encR W W.heap.size A n c rs) => fine_ok L A n c rs W h hy)
  obtain ⟨Ln, rfl, hLn, hr⟩ := yard_nat hy
  have Hy := Lib.hid hy
  have Hr := Lib.hid hr
  have HyB := Lib.hid (yard_of (L := (Ln : Int)) (by omega) (back_ok hr))
  have Hlb := Lib.hid (fun hh hb => la_back (hh := hh) (hb := hb) hy)
  obtain ⟨v, hv⟩ : ∃ v, LA rs Ln 101 = v := ⟨_, rfl⟩
  have Hv := Lib.hid hv
  obtain ⟨bs, hbs⟩ : ∃ bs, Fill.lateP (LA (backP rs) Ln) 101 = bs := ⟨_, rfl⟩
  have Hbs := Lib.hid (show lateV (Ln : Int) (backP rs) = bs by unfold lateV; rw [if_pos HyB.out, Int.toNat_natCast]; exact hbs)
  obtain ⟨es, has⟩ : ∃ es, bs.reverse.map (fun t => 100 - t) = es := ⟨_, rfl⟩
  have Has := Lib.hid (show earlyV (Ln : Int) rs = es by unfold earlyV; rw [if_pos hy, Int.toNat_natCast, hbs]; exact has)
  have hal : es.length = bs.length := by rw [← has]; simp
  have Hal := Lib.hid hal
  have hbl : bs.length ≤ 200000 := by
    have h1 := lateP_len (LA (backP rs) Ln) (la_zero _ _) (la_mono1 _ _) 101
    have h2 := la_bound (back_ok hr) hLn 101
    rw [hbs] at h1
    omega
  have Hbl := Lib.hid hbl
  have Hbr := Lib.hid (show ∀ t ∈ bs, 0 ≤ t ∧ t ≤ 100 from fun t ht => late_mem (by rw [hbs]; exact ht))
  have Hat := Lib.hid (show ∀ (i j : Nat), i + j + 1 = bs.length → ∃ y, bs[j]? = some y ∧ es[i]? = some (100 - y) from fun i j hij => by
    refine ⟨bs[j], List.getElem?_eq_getElem (by omega), ?_⟩
    rw [← has, List.getElem?_map, List.getElem?_reverse (by omega), show bs.length - 1 - i = j by omega, List.getElem?_eq_getElem (by omega)]
    rfl)
  clear hs hy hr hv hbs has hal hbl
  go_enter Try.func10, Try.ntmps10
  go_wp2_with fail
  refine (Hf.out _ HK0.out.sl).mono ?_
  rintro e w2 ⟨rfl, hb⟩
  have HK1 := Lib.hid (HK0.out.later hb)
  clear hb HK0 c0 c1 c2
  obtain ⟨c0, c1, c2⟩ := HK1.out.cells
  go_wp2_with fail
  refine (refBack_any (Ln : Int) A n c rs _ HK1.out.sl Hr.out).mono ?_
  rintro e w3 ⟨A', c', rfl, hb, hsl⟩
  have HK2 := Lib.hid (HK1.out.later hb)
  clear hb HK1 c0 c1 c2
  obtain ⟨c0, c1, c2⟩ := HK2.out.cells
  have HX0 := Lib.hid (show LW w (w3.alloc (.cells #[.int .i64 (Ln : Int), .slice A' n c'] 24)) w3.heap.size (Ln : Int) A' n c' (backP rs) from ⟨balloc HK2.out.bel _, Blk.new w3 _ _, hsl.later (balloc (brefl _) _)⟩)
  have HK3 := Lib.hid (HK2.out.later (balloc (brefl w3) (.cells #[.int .i64 (Ln : Int), .slice A' n c'] 24)))
  clear HK2 c0 c1 c2
  obtain ⟨c0, c1, c2⟩ := HK3.out.cells
  have HX3 := HX0
  clear HX0 hsl
  obtain ⟨d0, d1, d2⟩ := HX3.out.cells
  go_wp2_with fail
  refine (fewestL_any Ln A n c rs _ HK3.out.sl Hy.out).mono ?_
  rintro e w4 ⟨g1, hh1, rfl, hb, _, he1, hv1⟩
  have HK4 := Lib.hid (HK3.out.later hb)
  have HX4 := Lib.hid (HX3.out.later hb)
  clear hb HK3 HX3 c0 c1 c2 d0 d1 d2
  obtain ⟨c0, c1, c2⟩ := HK4.out.cells
  obtain ⟨d0, d1, d2⟩ := HX4.out.cells
  go_wp2_with fail
  refine (fewestL_any Ln A' n c' (backP rs) _ HX4.out.sl HyB.out).mono ?_
  rintro e w5 ⟨g2, hh2, rfl, hb, _, he2, hv2⟩
  have HK5 := Lib.hid (HK4.out.later hb)
  have HX5 := Lib.hid (HX4.out.later hb)
  clear hb HK4 HX4 c0 c1 c2 d0 d1 d2
  obtain ⟨c0, c1, c2⟩ := HK5.out.cells
  obtain ⟨d0, d1, d2⟩ := HX5.out.cells
  rw [Hlb.out hh1 hh2 he1 hv1 he2 hv2, Hv.out]
  clear he1 hv1 he2 hv2
  go_wp2_with fail
  refine (early_any (Ln : Int) A n c rs _ HK5.out.sl).mono ?_
  rintro e w6 ⟨v3, rfl, hb, ho⟩
  have HK6 := Lib.hid (HK5.out.later hb)
  have HX6 := Lib.hid (HX5.out.later hb)
  clear hb HK5 HX5 c0 c1 c2 d0 d1 d2
  obtain ⟨c0, c1, c2⟩ := HK6.out.cells
  obtain ⟨d0, d1, d2⟩ := HX6.out.cells
  rw [Hy.out]
  rw [Has.out] at ho
  obtain ⟨GA, da, rfl, hsl⟩ := own_slI ho rfl
  have HA6 := Lib.hid hsl
  clear ho hsl
  go_wp2_with fail
  refine (late_any (Ln : Int) A' n c' (backP rs) _ HX6.out.sl).mono ?_
  rintro e w7 ⟨v4, rfl, hb, ho, _⟩
  have HK7 := Lib.hid (HK6.out.later hb)
  have HX7 := Lib.hid (HX6.out.later hb)
  have HA7 := Lib.hid (HA6.out.later hb)
  clear hb HK6 HX6 HA6 c0 c1 c2 d0 d1 d2
  obtain ⟨c0, c1, c2⟩ := HK7.out.cells
  obtain ⟨d0, d1, d2⟩ := HX7.out.cells
  rw [HyB.out]
  rw [Hbs.out] at ho
  obtain ⟨GB, db, rfl, hsl⟩ := own_slI ho rfl
  have HT := Lib.hid (show TL w w7 GA GB bs.length da db es bs from ⟨HK7.out.bel, by have h := HA7.out; rw [Hal.out] at h; exact h, hsl⟩)
  rw [Hal.out]
  obtain ⟨m, hm⟩ : ∃ m, bs.length = m := ⟨_, rfl⟩
  have Hm := Lib.hid hm
  have hm60 : m ≤ 200000 := by rw [← hm]; exact Hbl.out
  rw [hm] at HT ⊢
  clear ho hsl hm HK7 HX7 HA7 c0 c1 c2 d0 d1 d2
  go_wp2_with fail
  refine loop_n (fun q a W => a.defers = [] ∧ ∃ (i : Nat), i + q = m ∧ TL w W GA GB m da db es bs ∧ Fits (none :: none :: none :: none :: none :: none :: none :: none :: none :: none :: some (.slice GA m da) :: none :: some (.slice GB m db) :: none :: some (.int .i64 (i : Nat)) :: none :: none :: none :: none :: none :: none :: none :: none :: none :: none :: none :: none :: none :: none :: none :: none :: none :: none :: none :: none :: none :: none :: none :: none :: none :: none :: none :: none :: none :: none :: none :: none :: none :: none :: none :: none :: none :: none :: none :: none :: none :: none :: none :: none :: none :: none :: none :: none :: none :: none :: none :: none :: none :: none :: none :: none :: none :: none :: none :: none :: none :: none :: none :: none :: none :: none :: none :: none :: none :: none :: none :: none :: none :: none :: none :: none :: none :: none :: none :: none :: none :: none :: none :: none :: none :: none :: none :: none :: none :: []) a.tmps.toList) m ?_ ?_
  · refine ⟨rfl, 0, by omega, HT.out, ?_⟩
    repeat (first | exact fits_nil | refine fits_none ?_ | refine fits_some ?_)
  clear HT
  intro q a W hI K hK
  obtain ⟨hds, i, hiq, hT, hfit⟩ := hI
  obtain ⟨f', hf'⟩ := fits_act hfit
  rw [hds] at hf'
  subst hf'
  clear hfit hds
  simp only [fillP, Nat.reduceAdd]
  have HT := Lib.hid hT
  by_cases hlt : i < m
  · obtain ⟨j, hj⟩ : ∃ j, i + j + 1 = m := ⟨m - 1 - i, by omega⟩
    obtain ⟨y, hy1, hy2⟩ := Hat.out i j (by rw [Hm.out]; exact hj)
    obtain ⟨ba, oa, x, rfl, hba, hx, x0⟩ := hT.sa.ltI hlt
    obtain ⟨bb, ob, y', rfl, hbb, hy', y0⟩ := hT.sb.ltI (i := j) (by omega)
    rw [hy1] at hy'
    rw [hy2] at hx
    cases hx
    cases hy'
    have hyr := Hbr.out y (List.mem_of_getElem? hy1)
    have i1 : (i : Int) < (m : Int) := by omega
    have i2 : (0 : Int) ≤ (i : Int) := by omega
    have i3 : IntKind.i64.wrap ((i : Int) + 1) = (i : Int) + 1 := by rw [IntKind.wrap_i64]; omega
    have i4 : IntKind.i64.wrap ((m : Int) - 1) = (m : Int) - 1 := by rw [IntKind.wrap_i64]; omega
    have i5 : IntKind.i64.wrap ((m : Int) - 1 - (i : Int)) = (j : Int) := by rw [IntKind.wrap_i64]; omega
    have i6 : (j : Int) < (m : Int) := by omega
    have i7 : (0 : Int) ≤ (j : Int) := by omega
    obtain ⟨x, hx⟩ : ∃ x, 100 - y = x := ⟨_, rfl⟩
    rw [hx] at x0
    have i8 : IntKind.i64.wrap (100 - x) = y := by rw [IntKind.wrap_i64]; omega
    have i9 : ¬ (x < 0) := by omega
    have i10 : ¬ (100 < x) := by omega
    clear hT hy1 hy2 hj hx
    go_wp2_with fail
    refine dag 28 (by kernel_rfl) (by kernel_rfl) (.is ?_ :: .is ?_ :: .is ?_ :: .is ?_ :: .is ?_ :: .is ?_ :: .is ?_ :: .is ?_ :: .is ?_ :: .is ?_ :: .is ?_ :: .is ?_ :: .is ?_ :: .is ?_ :: .is ?_ :: .is ?_ :: .is ?_ :: .is ?_ :: .is ?_ :: .is ?_ :: .is ?_ :: .is ?_ :: .is ?_ :: .is ?_ :: .is ?_ :: .is ?_ :: .is ?_ :: .is ?_ :: []) rfl ?st1 ?ob1
    case st1 => simp [Spec.ok]
    case ob1 =>
    intro env V hG
    obtain ⟨hc, hf⟩ := bcell hG
    repeat (refine obls_is ?_ ?_; unfold doesAt; go_simp; (try go_bits); (first | (refine ⟨brefl _, ?_⟩; rfl) | rfl); intro K hK; go_simp; refine hK _ ?_; clear hK K)
    refine obls_nil (fun _ => ?_)
    have HT2 := Lib.hid (HT.out.later hG)
    clear hc hf hG HT x0 y0 hba hbb
    go_wp2
    refine hK _ _ (q - 1) (by omega) ⟨rfl, i + 1, by omega, HT2.out, ?_⟩
    repeat (first | exact fits_nil | refine fits_none ?_ | refine fits_some ?_)
  · obtain rfl : i = m := by omega
    have HB := Lib.hid HT.out.bel
    clear hK hT HT
    go_wp2_with fail
    refine (works_any _).mono ?_
    rintro e we ⟨rfl, hbe⟩
    have HBE := Lib.hid (Below.later HB.out hbe)
    clear hbe
    go_wp2
    go_ret
    exact ⟨rfl, HBE.out⟩
end Go.Proofs.Ytbbdlebmagknmaa
