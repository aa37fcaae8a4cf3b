/- The walk of SteamReached. -/
import Derived.Test.YtbbdlebmagknmaaSEnough
namespace Go.Proofs.Ytbbdlebmagknmaa
open Go.RowKit Go.Shelf

set_option maxRecDepth 100000 in
set_option maxHeartbeats 4000000 in
theorem reached_law (L : Int) (A : Option Addr) (n c : Nat) (rs : List Rg) (w : World) (hs : Sl 2 encR w w.heap.size A n c rs) :
    Calls Try.prog 9 #[.agg #[.int .i64 L, .slice A n c]] w fun e w' => e = .returned (.bool true) ∧ Below w.heap.size w w' := by
  have hB := balloc (brefl w) (.cells #[.int .i64 L, .slice A n c] 24)
  have HK0 := Lib.hid (show LW w (w.alloc (.cells #[.int .i64 L, .slice A n c] 24)) w.heap.size L A n c rs from ⟨hB, Blk.new w _ _, hs.later hB⟩)
  clear hB
  obtain ⟨c0, c1, c2⟩ := HK0.out.cells
  by_cases hy : yardE L rs = 0
  case neg =>
    have Hf := Lib.hid (fun W (h : Sl 2 encR W W.heap.size A n c rs) => fine_bad L A n c rs W h hy)
    clear hs hy
    go_enter Try.func9, Try.ntmps9
    go_wp2_with fail
    refine (Hf.out _ HK0.out.sl).mono ?_
    rintro e w1 ⟨rfl, hb⟩
    have HK1 := Lib.hid (HK0.out.later hb)
    clear hb HK0 c0 c1 c2
    obtain ⟨c0, c1, c2⟩ := HK1.out.cells
    go_wp2_with fail
    refine (works_any _).mono ?_
    rintro e we ⟨rfl, hbe⟩
    have HBE := Lib.hid (Below.later HK1.out.bel hbe)
    clear hbe
    go_wp2
    go_ret
    exact ⟨rfl, HBE.out⟩
  case pos =>
  have Hf := Lib.hid (fun W (h : Sl 2 encR W W.heap.size A n c rs) => fine_ok L A n c rs W h hy)
  obtain ⟨Ln, rfl, hLn, hr⟩ := yard_nat hy
  have Hy := Lib.hid hy
  have Hr := Lib.hid hr
  obtain ⟨v, hv⟩ : ∃ v, LA rs Ln 101 = v := ⟨_, rfl⟩
  have hee := early_is hy
  have hle := late_is hy
  have hn1 := late_len hr hLn.1
  have hn2 := early_len hr hLn.1
  have hbdd := la_bound hr hLn 101
  have hf1 := early_feas hr hLn.1
  have hf2 := late_feas hr hLn.1
  have hs1 := early_sorted hr hLn.1
  have hs2 := late_sorted hr hLn.1
  rw [hv] at hn1 hn2 hbdd
  obtain ⟨es, hes⟩ : ∃ es, earlyOf rs Ln = es := ⟨_, rfl⟩
  obtain ⟨bs, hbs⟩ : ∃ bs, lateOf rs Ln = bs := ⟨_, rfl⟩
  rw [hes] at hee hn2 hf1 hs1
  rw [hbs] at hle hn1 hf2 hs2
  obtain ⟨m, hm⟩ : ∃ m, bs.length = m := ⟨_, rfl⟩
  have hm2 : es.length = m := by omega
  have hmv : (m : Int) = v := by omega
  have hm60 : m ≤ 200000 := by omega
  have HE := Lib.hid hee
  have HL := Lib.hid hle
  have Hm := Lib.hid hm
  have Hm2 := Lib.hid hm2
  have Hv := Lib.hid hv
  have HF1 := Lib.hid hf1
  have HF2 := Lib.hid hf2
  have HS1 := Lib.hid hs1
  have HS2 := Lib.hid hs2
  clear hs hy hr hv hee hle hn1 hn2 hbdd hes hbs hm hm2 hf1 hf2 hs1 hs2
  go_enter Try.func9, Try.ntmps9
  go_wp2_with fail
  refine (Hf.out _ HK0.out.sl).mono ?_
  rintro e w2 ⟨rfl, hb⟩
  have HK1 := Lib.hid (HK0.out.later hb)
  clear hb HK0 c0 c1 c2
  obtain ⟨c0, c1, c2⟩ := HK1.out.cells
  go_wp2_with fail
  refine (fewestL_any Ln A n c rs _ HK1.out.sl Hy.out).mono ?_
  rintro e w3 ⟨g1, hh, rfl, hb, _, _, _⟩
  have HK2 := Lib.hid (HK1.out.later hb)
  clear hb HK1 c0 c1 c2
  obtain ⟨c0, c1, c2⟩ := HK2.out.cells
  rw [Hv.out]
  go_wp2_with fail
  refine (early_any (Ln : Int) A n c rs _ HK2.out.sl).mono ?_
  rintro e w4 ⟨v3, rfl, hb, ho⟩
  have HK3 := Lib.hid (HK2.out.later hb)
  clear hb HK2 c0 c1 c2
  obtain ⟨c0, c1, c2⟩ := HK3.out.cells
  rw [Hy.out]
  rw [HE.out, Hm2.out] at ho
  obtain ⟨GA, da, rfl, hsl⟩ := own_slI ho Hm2.out
  have HA3 := Lib.hid hsl
  clear ho hsl
  go_wp2_with fail
  refine (late_any (Ln : Int) A n c rs _ HK3.out.sl).mono ?_
  rintro e w5 ⟨v5, rfl, hb, ho, _⟩
  have HK4 := Lib.hid (HK3.out.later hb)
  have HA4 := Lib.hid (HA3.out.later hb)
  clear hb HK3 HA3 c0 c1 c2
  obtain ⟨c0, c1, c2⟩ := HK4.out.cells
  rw [Hy.out]
  rw [HL.out, Hm.out] at ho
  obtain ⟨GB, db, rfl, hsl⟩ := own_slI ho Hm.out
  have HB4 := Lib.hid hsl
  clear ho hsl
  go_wp2_with fail
  refine (enough_any Ln A n c rs GA m da es _ HK4.out.sl HA4.out Hr.out hLn HS1.out hm60 HF1.out).mono ?_
  rintro e w6 ⟨rfl, hb⟩
  have HK5 := Lib.hid (HK4.out.later hb)
  have HA5 := Lib.hid (HA4.out.later hb)
  have HB5 := Lib.hid (HB4.out.later hb)
  clear hb HK4 HA4 HB4 c0 c1 c2
  obtain ⟨c0, c1, c2⟩ := HK5.out.cells
  clear hmv
  go_wp2_with fail
  refine (enough_any Ln A n c rs GB m db bs _ HK5.out.sl HB5.out Hr.out hLn HS2.out hm60 HF2.out).mono ?_
  rintro e w7 ⟨rfl, hb⟩
  have HK6 := Lib.hid (HK5.out.later hb)
  have HA6 := Lib.hid (HA5.out.later hb)
  have HB6 := Lib.hid (HB5.out.later hb)
  clear hb HK5 HA5 HB5 c0 c1 c2
  obtain ⟨c0, c1, c2⟩ := HK6.out.cells
  go_wp2_with fail
  refine (works_any _).mono ?_
  rintro e we ⟨rfl, hbe⟩
  have HBE := Lib.hid (Below.later HK6.out.bel hbe)
  clear hbe
  go_wp2
  go_ret
  exact ⟨rfl, HBE.out⟩
end Go.Proofs.Ytbbdlebmagknmaa
