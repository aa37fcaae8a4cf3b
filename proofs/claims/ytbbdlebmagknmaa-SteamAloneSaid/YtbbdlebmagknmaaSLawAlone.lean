/- The walk of SteamAlone. -/
import Derived.Test.YtbbdlebmagknmaaSPlain3
namespace Go.Proofs.Ytbbdlebmagknmaa
open Go.RowKit Go.Shelf

def endsTo (rs : List Rg) (h : Nat) (e : Int) (i : Nat) : Bool := (rs.take i).any fun r => decide (r.hi = (h : Int)) && decide (e < r.lo)
theorem ends_succ {rs : List Rg} {h : Nat} {e : Int} {i : Nat} {x : Rg} (hx : rs[i]? = some x) : endsTo rs h e (i + 1) = (endsTo rs h e i || (decide (x.hi = (h : Int)) && decide (e < x.lo))) := by
  obtain ⟨h1, h2⟩ := List.getElem?_eq_some_iff.1 hx
  unfold endsTo
  rw [List.take_succ_eq_append_getElem h1, h2, List.any_append]
  simp
theorem alone_bounds (rs : List Rg) : ∀ h : Nat, 0 ≤ (aloneTo rs h).1 ∧ (aloneTo rs h).1 ≤ (h : Int)
  | 0 => by simp [aloneTo]
  | h + 1 => by
    have := alone_bounds rs h
    rw [aloneTo_succ]
    unfold aloneStep
    split <;> (try simp only) <;> omega
set_option maxRecDepth 100000 in
set_option maxHeartbeats 4000000 in
theorem alone_law (L : Int) (A : Option Addr) (n c : Nat) (rs : List Rg) (w : World) (hs : Sl 2 encR w w.heap.size A n c rs) :
    Calls Try.prog 15 #[.agg #[.int .i64 L, .slice A n c]] w fun e w' => e = .returned (.bool true) ∧ Below w.heap.size w w' := by
  have hB := balloc (brefl w) (.cells #[.int .i64 L, .slice A n c] 24)
  have HK0 := Lib.hid (show LW w (w.alloc (.cells #[.int .i64 L, .slice A n c] 24)) w.heap.size L A n c rs from ⟨hB, Blk.new w _ _, hs.later hB⟩)
  clear hB
  obtain ⟨c0, c1, c2⟩ := HK0.out.cells
  by_cases hy : yardE L rs = 0
  case neg =>
    have Hf := Lib.hid (fun W (h : Sl 2 encR W W.heap.size A n c rs) => fine_bad L A n c rs W h hy)
    clear hs hy
    go_enter Try.func15, Try.ntmps15
    go_wp2_with fail
    refine (Hf.out _ HK0.out.sl).mono ?_
    rintro e w1 ⟨rfl, hb⟩
    have HK1 := Lib.hid (HK0.out.later hb)
    clear hb HK0 c0 c1 c2
    obtain ⟨c0, c1, c2⟩ := HK1.out.cells
    go_wp2_with fail
    refine (works_any _).mono ?_
    rintro e we ⟨rfl, hbe⟩
    have HBE := Lib.hid (Below.later HK1.out.bel hbe)
    clear hbe
    go_wp2
    go_ret
    exact ⟨rfl, HBE.out⟩
  case pos =>
  have Hf := Lib.hid (fun W (h : Sl 2 encR W W.heap.size A n c rs) => fine_ok L A n c rs W h hy)
  obtain ⟨Ln, rfl, hLn, hr⟩ := yard_nat hy
  have Hr := Lib.hid hr
  have hnl := hs.len
  have Hnl := Lib.hid hnl
  have hn10 : n ≤ 10 := by rw [← hnl]; exact hr.1
  have H1 := Lib.hid (fun W (h : Sl 2 encR W W.heap.size A n c rs) => show Calls Try.prog 40 #[.agg #[.int .i64 1, .slice A n c]] W (fun e w' => ∃ g hh, e = .returned (.tuple #[.int .i64 (LA rs 1 101), .slice (some ⟨g, 0, none⟩) n n, .bool true]) ∧ Below W.heap.size W w' ∧ Sl 1 encI w' w'.heap.size (some ⟨g, 0, none⟩) n n hh ∧ hoursE ((1 : Nat) : Int) rs hh = 0 ∧ hoursV ((1 : Nat) : Int) rs hh = LA rs 1 101) from
    fewestL_any 1 A n c rs W h (yard_of (L := ((1 : Nat) : Int)) (by omega) hr))
  have H2 := Lib.hid (fun W (h : Sl 2 encR W W.heap.size A n c rs) => show Calls Try.prog 40 #[.agg #[.int .i64 10, .slice A n c]] W (fun e w' => ∃ g hh, e = .returned (.tuple #[.int .i64 (LA rs 10 101), .slice (some ⟨g, 0, none⟩) n n, .bool true]) ∧ Below W.heap.size W w' ∧ Sl 1 encI w' w'.heap.size (some ⟨g, 0, none⟩) n n hh ∧ hoursE ((10 : Nat) : Int) rs hh = 0 ∧ hoursV ((10 : Nat) : Int) rs hh = LA rs 10 101) from
    fewestL_any 10 A n c rs W h (yard_of (L := ((10 : Nat) : Int)) (by omega) hr))
  have Hs := Lib.hid hs
  clear hs hy hr hnl
  go_enter Try.func15, Try.ntmps15
  go_wp2_with fail
  refine (Hf.out _ HK0.out.sl).mono ?_
  rintro e w2 ⟨rfl, hb⟩
  have HK1 := Lib.hid (HK0.out.later hb)
  clear hb HK0 c0 c1 c2
  obtain ⟨c0, c1, c2⟩ := HK1.out.cells
  go_wp2_with fail
  refine (H1.out _ HK1.out.sl).mono ?_
  rintro e w3 ⟨g1, hh1, rfl, hb, _, he1, hv1⟩
  have HK2 := Lib.hid (HK1.out.later hb)
  clear hb HK1 c0 c1 c2
  obtain ⟨c0, c1, c2⟩ := HK2.out.cells
  have hone : LA rs 1 101 = (n : Int) := by
    obtain ⟨a1, a2, a3⟩ := hours_of he1
    rw [← Hnl.out]
    exact la_one Hr.out a1 a2 (a3.symm.trans hv1)
  rw [hone]
  clear he1 hv1 hone
  go_wp2_with fail
  refine (H2.out _ HK2.out.sl).mono ?_
  rintro e w4 ⟨g2, hh2, rfl, hb, _, _, _⟩
  have HK3 := Lib.hid (HK2.out.later hb)
  clear hb HK2 c0 c1 c2
  obtain ⟨c0, c1, c2⟩ := HK3.out.cells
  rw [la_all Hr.out]
  obtain ⟨v, hv⟩ : ∃ v, (aloneTo rs 101).1 = v := ⟨_, rfl⟩
  have Hv := Lib.hid hv
  rw [hv]
  clear hv
  go_wp2_with fail
  clear c0 c1 c2
  refine loop_n (fun q a W => a.defers = [] ∧ ∃ (h : Nat) (k e : Int), h + q = 101 ∧ LW w W w.heap.size (Ln : Int) A n c rs ∧ aloneTo rs h = (k, e) ∧ Fits (none :: some (.pointer (some ⟨w.heap.size, 0, none⟩)) :: none :: some (.int .i64 (n : Nat)) :: none :: some (.bool true) :: some (.int .i64 v) :: none :: some (.bool true) :: some (.int .i64 k) :: some (.int .i64 e) :: some (.int .i64 (h : Nat)) :: none :: none :: none :: none :: none :: none :: none :: none :: none :: none :: none :: none :: none :: none :: none :: none :: none :: none :: none :: none :: none :: none :: none :: none :: none :: none :: none :: none :: none :: none :: none :: none :: none :: none :: none :: none :: none :: none :: none :: none :: none :: none :: none :: none :: none :: none :: none :: none :: none :: none :: none :: none :: none :: none :: none :: none :: none :: none :: none :: none :: none :: none :: none :: none :: none :: none :: none :: none :: none :: none :: none :: none :: none :: none :: none :: none :: none :: []) a.tmps.toList) 101 ?_ ?_
  · refine ⟨rfl, 0, 0, -1, by omega, HK3.out, rfl, ?_⟩
    repeat (first | exact fits_nil | refine fits_none ?_ | refine fits_some ?_)
  clear HK3
  intro q a W hI K hK
  obtain ⟨hds, h, k, e, hq, hC, hal, hfit⟩ := hI
  obtain ⟨f', hf'⟩ := fits_act hfit
  rw [hds] at hf'
  subst hf'
  clear hfit hds
  simp only [fillP, Nat.reduceAdd]
  have HC := Lib.hid hC
  have hab := alone_bounds rs h
  rw [hal] at hab
  simp only at hab
  have Hal := Lib.hid hal
  by_cases hlt : h ≤ 100
  · have i1 : (h : Int) ≤ 100 := by omega
    have i3 : IntKind.i64.wrap ((h : Int) + 1) = (h : Int) + 1 := by rw [IntKind.wrap_i64]; omega
    have i4 : IntKind.i64.wrap (k + 1) = k + 1 := by rw [IntKind.wrap_i64]; omega
    clear hC hal hab
    go_wp2_with fail
    refine loop_n (fun q a W => a.defers = [] ∧ ∃ (i : Nat) (eb : Bool), i + q = n ∧ LW w W w.heap.size (Ln : Int) A n c rs ∧ endsTo rs h e i = eb ∧ Fits (none :: some (.pointer (some ⟨w.heap.size, 0, none⟩)) :: none :: some (.int .i64 (n : Nat)) :: none :: some (.bool true) :: some (.int .i64 v) :: none :: some (.bool true) :: some (.int .i64 k) :: some (.int .i64 e) :: some (.int .i64 (h : Nat)) :: some (.bool eb) :: some (.int .i64 (i : Nat)) :: none :: none :: none :: none :: none :: none :: none :: none :: none :: none :: none :: none :: none :: none :: none :: none :: none :: none :: none :: none :: none :: none :: none :: none :: none :: none :: none :: none :: none :: none :: none :: none :: none :: none :: none :: none :: none :: none :: none :: none :: none :: none :: none :: none :: none :: none :: none :: none :: none :: none :: none :: none :: none :: none :: none :: none :: none :: none :: none :: none :: none :: none :: none :: none :: none :: none :: none :: none :: none :: none :: none :: none :: none :: none :: none :: []) a.tmps.toList) n ?_ ?_
    · refine ⟨rfl, 0, false, by omega, HC.out, rfl, ?_⟩
      repeat (first | exact fits_nil | refine fits_none ?_ | refine fits_some ?_)
    clear HC W
    intro q2 a W hI K2 hK2
    obtain ⟨hds, i, eb, hiq, hC, hen, hfit⟩ := hI
    obtain ⟨f', hf'⟩ := fits_act hfit
    rw [hds] at hf'
    subst hf'
    clear hfit hds
    simp only [fillP, Nat.reduceAdd]
    have HC := Lib.hid hC
    obtain ⟨c0, c1, c2⟩ := hC.cells
    by_cases hli : i < n
    · obtain ⟨rb, ro, x, rfl, hrb, hx, g0, g1⟩ := hC.sl.ltR hli
      have hsu := ends_succ (h := h) (e := e) hx
      rw [hen] at hsu
      have j1 : (i : Int) < (n : Int) := by omega
      have j2 : (0 : Int) ≤ (i : Int) := by omega
      have j3 : IntKind.i64.wrap ((i : Int) + 1) = (i : Int) + 1 := by rw [IntKind.wrap_i64]; omega
      clear hen
      cases eb with
      | true =>
        have HN := Lib.hid (show endsTo rs h e (i + 1) = true by rw [hsu]; rfl)
        clear hC hx hsu
        go_wp2
        refine hK2 _ _ (q2 - 1) (by omega) ⟨rfl, i + 1, true, by omega, HC.out, HN.out, ?_⟩
        repeat (first | exact fits_nil | refine fits_none ?_ | refine fits_some ?_)
      | false =>
        by_cases h1 : x.hi = (h : Int)
        · by_cases h2 : e < x.lo
          · have HN := Lib.hid (show endsTo rs h e (i + 1) = true by rw [hsu]; simp [h1, h2])
            rw [h1] at g1
            clear h1
            clear hC hx hsu
            go_wp2
            refine hK2 _ _ (q2 - 1) (by omega) ⟨rfl, i + 1, true, by omega, HC.out, HN.out, ?_⟩
            repeat (first | exact fits_nil | refine fits_none ?_ | refine fits_some ?_)
          · have HN := Lib.hid (show endsTo rs h e (i + 1) = false by rw [hsu]; simp [h2])
            have d2 : decide (e < x.lo) = false := by simpa using h2
            rw [h1] at g1
            clear h1
            clear hC hx hsu
            go_wp2
            refine hK2 _ _ (q2 - 1) (by omega) ⟨rfl, i + 1, false, by omega, HC.out, HN.out, ?_⟩
            repeat (first | exact fits_nil | refine fits_none ?_ | refine fits_some ?_)
        · have HN := Lib.hid (show endsTo rs h e (i + 1) = false by rw [hsu]; simp [h1])
          have d1 : (x.hi == (h : Int)) = false := by simpa using h1
          have d2 : decide (x.hi = (h : Int)) = false := by simpa using h1
          clear h1
          clear hC hx hsu
          go_wp2
          refine hK2 _ _ (q2 - 1) (by omega) ⟨rfl, i + 1, false, by omega, HC.out, HN.out, ?_⟩
          repeat (first | exact fits_nil | refine fits_none ?_ | refine fits_some ?_)
    · have hin : i = n := by omega
      have hany : (rs.any fun r => decide (r.hi = (h : Int)) && decide (e < r.lo)) = eb := by
        rw [← hen]
        unfold endsTo
        rw [hin, ← Hnl.out, List.take_length]
      have hst := aloneTo_succ rs h
      rw [Hal.out] at hst
      unfold aloneStep at hst
      simp only at hst
      rw [hany] at hst
      have j1 : ¬ ((i : Int) < (n : Int)) := by omega
      clear hK2 hC hen hany hin hiq hli
      cases eb with
      | true =>
        have HN := Lib.hid (show aloneTo rs (h + 1) = (k + 1, (h : Int)) by rw [hst]; rfl)
        clear hst
        go_wp2
        refine hK _ _ (q - 1) (by omega) ⟨rfl, h + 1, k + 1, (h : Int), by omega, HC.out, HN.out, ?_⟩
        repeat (first | exact fits_nil | refine fits_none ?_ | refine fits_some ?_)
      | false =>
        have HN := Lib.hid (show aloneTo rs (h + 1) = (k, e) by rw [hst]; rfl)
        clear hst
        go_wp2
        refine hK _ _ (q - 1) (by omega) ⟨rfl, h + 1, k, e, by omega, HC.out, HN.out, ?_⟩
        repeat (first | exact fits_nil | refine fits_none ?_ | refine fits_some ?_)
  · have hh : h = 101 := by omega
    rw [hh] at hal
    have hkv : k = v := by rw [← Hv.out, hal]
    subst hkv
    have i1 : ¬ ((h : Int) ≤ 100) := by omega
    obtain ⟨c0, c1, c2⟩ := hC.cells
    clear hK hC hal hab hh hlt hq Hal
    go_wp2_with fail
    refine (works_any _).mono ?_
    rintro e we ⟨rfl, hbe⟩
    have HBE := Lib.hid (Below.later HC.out.bel hbe)
    clear hbe
    go_wp2
    go_ret
    exact ⟨rfl, HBE.out⟩
end Go.Proofs.Ytbbdlebmagknmaa
