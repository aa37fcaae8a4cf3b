/- The law's order: the loads of hours, in order. -/
import Derived.Test.YtbbdlebmagknmaaSChosen
import Derived.Test.YtbbdlebmagknmaaSPlain3
namespace Go.Proofs.Ytbbdlebmagknmaa
open Go.RowKit Go.Shelf

theorem upN_le (n L : Nat) (hL : 1 ≤ L) : Fill.upN n L ≤ n := by
  unfold Fill.upN
  rcases Nat.eq_zero_or_pos n with h | h
  · subst h
    rw [Nat.div_eq_of_lt (by omega)]
    exact Nat.le_refl _
  · refine Nat.div_le_of_le_mul ?_
    obtain ⟨k, rfl⟩ : ∃ k, n = k + 1 := ⟨n - 1, by omega⟩
    obtain ⟨j, rfl⟩ : ∃ j, L = j + 1 := ⟨L - 1, by omega⟩
    rw [Nat.mul_succ, Nat.succ_mul]
    omega
theorem upN_is {n L k : Nat} (hL : 1 ≤ L) (h1 : n ≤ k * L) (h2 : k = 0 ∨ k * L < n + L) : Fill.upN n L = k := by
  unfold Fill.upN
  rcases h2 with h2 | h2
  · subst h2
    exact Nat.div_eq_of_lt (by omega)
  · refine Nat.div_eq_of_lt_le (by omega) ?_
    rw [Nat.succ_mul]
    omega
theorem ord_le (L : Nat) (hL : 1 ≤ L) (hs : List Int) {j : Nat} (hj : j ≤ 101) : ordA L hs j ≤ hs.length := by
  have h1 := mono_of (ord_mono L hs) hj
  have h2 : ordA L hs 101 ≤ (((List.range 101).map fun t : Nat => hs.countP fun h => decide (h = (t : Int))).sum : Nat) := by
    unfold ordA
    exact_mod_cast Fill.nsum_le _ _ _ fun t _ => upN_le _ L hL
  have h3 := Fill.count_all_le hs
  omega
theorem cnt_take {hs : List Int} {i : Nat} {x : Int} (h : hs[i]? = some x) (t : Int) : (hs.take (i + 1)).countP (fun h => decide (h = t)) = (hs.take i).countP (fun h => decide (h = t)) + if x = t then 1 else 0 := by
  rw [count_take h]
  congr 1
  by_cases e : x = t <;> simp [e]
set_option maxRecDepth 100000 in
set_option maxHeartbeats 4000000 in
theorem order_any (L : Nat) (A : Option Addr) (n c : Nat) (B : Option Addr) (m d : Nat) (hs : List Int) (w : World) (hh : Sl 1 encI w w.heap.size B m d hs) (hL : 1 ≤ L ∧ L ≤ 10) (hm : m ≤ 100) :
    Calls Try.prog 42 #[.agg #[.int .i64 (L : Int), .slice A n c], .slice B m d] w fun e w' => ∃ G k, e = .returned (.slice G (orderOf L hs).length k) ∧ Below w.heap.size w w' ∧ Sl 1 encI w' w'.heap.size G (orderOf L hs).length k (orderOf L hs) := by
  obtain rfl := hh.len
  have Hh := Lib.hid hh
  have HS0 := Lib.hid (show CHW w (w.alloc (.cells #[.int .i64 (L : Int), .slice A n c] 24)) (L : Int) A n c (.slice none 0 0) [] from ⟨balloc (brefl w) _, Blk.new w _ _, World.ownsRow_nil _ _ _ _⟩)
  clear hh
  go_enter Try.func42, Try.ntmps42
  go_wp2_with fail
  refine loop_n (fun q a W => a.defers = [] ∧ ∃ (h : Nat) (v : Value), h + q = 101 ∧ CHW w W (L : Int) A n c v (Fill.lateP (ordA L hs) h) ∧ Fits (none :: some (.slice B hs.length d) :: some (.pointer (some ⟨w.heap.size, 0, none⟩)) :: none :: none :: some (v) :: some (.int .i64 (h : Nat)) :: none :: none :: none :: none :: none :: none :: none :: none :: none :: none :: none :: none :: none :: none :: none :: none :: none :: none :: none :: none :: none :: none :: none :: none :: none :: none :: none :: none :: none :: none :: none :: []) a.tmps.toList) 101 ?_ ?_
  · refine ⟨rfl, 0, _, by omega, HS0.out, ?_⟩
    repeat (first | exact fits_nil | refine fits_none ?_ | refine fits_some ?_)
  clear HS0
  intro q a W hI K hK
  obtain ⟨hds, h, v, hq, hC, hfit⟩ := hI
  obtain ⟨f, hf⟩ := fits_act hfit
  rw [hds] at hf
  subst hf
  clear hfit hds
  simp only [fillP, Nat.reduceAdd]
  have HC := Lib.hid hC
  by_cases hlt : h ≤ 100
  · have i1 : (h : Int) ≤ 100 := by omega
    have i3 : IntKind.i64.wrap ((h : Int) + 1) = (h : Int) + 1 := by rw [IntKind.wrap_i64]; omega
    have hsu := lateP_succ (ordA L hs) h
    have hln := lateP_len _ (ord_zero L hs) (ord_mono L hs) h
    have hle := ord_le L hL.1 hs (show h ≤ 101 by omega)
    rw [ord_succ] at hsu
    obtain ⟨ys, hys⟩ : ∃ ys, Fill.lateP (ordA L hs) h = ys := ⟨_, rfl⟩
    rw [hys] at hsu hln HC
    have hyl : ys.length ≤ 100 := by omega
    obtain ⟨cc, hcc⟩ : ∃ cc, (hs.countP fun x => decide (x = (h : Int))) = cc := ⟨_, rfl⟩
    have hcl : cc ≤ 100 := by rw [← hcc]; exact Nat.le_trans List.countP_le_length hm
    rw [hcc, show (ordA L hs h + ((Fill.upN cc L : Nat) : Int) - ordA L hs h).toNat = Fill.upN cc L by omega] at hsu
    have Hsu := Lib.hid hsu
    have Hcc := Lib.hid hcc
    clear hC hsu hln hle hys hcc
    go_wp2_with fail
    refine loop_n (fun q a W => a.defers = [] ∧ ∃ (i k : Nat), (i + q = hs.length ∧ k ≤ i) ∧ k = ((hs.take i).countP fun x => decide (x = (h : Int))) ∧ CHW w W (L : Int) A n c v ys ∧ Fits (none :: some (.slice B hs.length d) :: some (.pointer (some ⟨w.heap.size, 0, none⟩)) :: none :: none :: some (v) :: some (.int .i64 (h : Nat)) :: some (.int .i64 (k : Nat)) :: some (.int .i64 (i : Nat)) :: none :: none :: none :: none :: none :: none :: none :: none :: none :: none :: none :: none :: none :: none :: none :: none :: none :: none :: none :: none :: none :: none :: none :: none :: none :: none :: none :: none :: none :: []) a.tmps.toList) hs.length ?_ ?_
    · refine ⟨rfl, 0, 0, by omega, by simp, HC.out, ?_⟩
      repeat (first | exact fits_nil | refine fits_none ?_ | refine fits_some ?_)
    clear HC W
    intro q2 a W hI K2 hK2
    obtain ⟨hds, i, k, hiq, hk, hC, hfit⟩ := hI
    obtain ⟨f, hf⟩ := fits_act hfit
    rw [hds] at hf
    subst hf
    clear hfit hds
    simp only [fillP, Nat.reduceAdd]
    have HC := Lib.hid hC
    have Hk := Lib.hid hk
    by_cases hli : i < hs.length
    · obtain ⟨rb, ro, x, rfl, hrb, hx, g0⟩ := (Hh.out.later hC.bel).ltI hli
      have j1 : (i : Int) < (hs.length : Int) := by omega
      have j2 : (0 : Int) ≤ (i : Int) := by omega
      have j3 : IntKind.i64.wrap ((i : Int) + 1) = (i : Int) + 1 := by rw [IntKind.wrap_i64]; omega
      have j4 : IntKind.i64.wrap ((k : Int) + 1) = (k : Int) + 1 := by rw [IntKind.wrap_i64]; omega
      have hct := cnt_take hx (h : Int)
      by_cases hxh : x = (h : Int)
      · rw [if_pos hxh, ← hk] at hct
        have Hct := Lib.hid hct.symm
        subst hxh
        clear hC hk hx hct
        go_wp2
        refine hK2 _ _ (q2 - 1) (by omega) ⟨rfl, i + 1, k + 1, by omega, Hct.out, HC.out, ?_⟩
        repeat (first | exact fits_nil | refine fits_none ?_ | refine fits_some ?_)
      · rw [if_neg hxh, ← hk] at hct
        have Hct := Lib.hid hct.symm
        have d1 : (x == (h : Int)) = false := by simpa using hxh
        have d2 : decide (x = (h : Int)) = false := by simpa using hxh
        clear hC hk hx hct hxh
        go_wp2
        refine hK2 _ _ (q2 - 1) (by omega) ⟨rfl, i + 1, k, by omega, Hct.out, HC.out, ?_⟩
        repeat (first | exact fits_nil | refine fits_none ?_ | refine fits_some ?_)
    · obtain rfl : i = hs.length := by omega
      have hkc : k = cc := by rw [hk, List.take_length]; exact Hcc.out
      rw [hkc]
      clear hK2 hC hk hkc Hk hli hiq
      go_wp2_with fail
      refine loop_n (fun q a W => a.defers = [] ∧ ∃ (k p : Nat) (x : Int) (u : Value), ((x + (p : Int) = (cc : Int) ∧ (k = 0 ∨ p < cc + L)) ∧ k ≤ p ∧ x ≤ (q : Int)) ∧ p = k * L ∧ CHW w W (L : Int) A n c u (ys ++ List.replicate k (h : Int)) ∧ Fits (none :: some (.slice B hs.length d) :: some (.pointer (some ⟨w.heap.size, 0, none⟩)) :: none :: none :: some (u) :: some (.int .i64 (h : Nat)) :: some (.int .i64 x) :: none :: none :: none :: none :: none :: none :: none :: none :: none :: none :: none :: none :: none :: none :: none :: none :: none :: none :: none :: none :: none :: none :: none :: none :: none :: none :: none :: none :: none :: none :: []) a.tmps.toList) cc ?_ ?_
      · refine ⟨rfl, 0, 0, (cc : Int), v, by omega, by simp, by rw [List.replicate_zero, List.append_nil]; exact HC.out, ?_⟩
        repeat (first | exact fits_nil | refine fits_none ?_ | refine fits_some ?_)
      clear HC W
      intro q3 a W hI K3 hK3
      obtain ⟨hds, k, p, x, u, hxp, hpk, hC, hfit⟩ := hI
      obtain ⟨f, hf⟩ := fits_act hfit
      rw [hds] at hf
      subst hf
      clear hfit hds
      simp only [fillP, Nat.reduceAdd]
      have c0 := hC.b0.cell 0
      have c2 := hC.b0.lt
      have HC := Lib.hid hC
      by_cases hx : 0 < x
      · have hadd : ys ++ List.replicate (k + 1) (h : Int) = (ys ++ List.replicate k (h : Int)) ++ [(h : Int)] := by rw [List.replicate_succ', List.append_assoc]
        have hzl : (ys ++ List.replicate k (h : Int)).length ≤ 400 := by rw [List.length_append, List.length_replicate]; omega
        obtain ⟨zs, hzs⟩ : ∃ zs, ys ++ List.replicate k (h : Int) = zs := ⟨_, rfl⟩
        rw [hzs] at hC HC hadd hzl
        have Hadd := Lib.hid hadd
        have Hn := Lib.hid (show ((x - (L : Int) + ((p + L : Nat) : Int) = (cc : Int) ∧ (k + 1 = 0 ∨ p + L < cc + L)) ∧ k + 1 ≤ p + L ∧ x - (L : Int) ≤ ((q3 - 1 : Nat) : Int)) ∧ p + L = (k + 1) * L from ⟨by omega, by rw [Nat.succ_mul, ← hpk]⟩)
        have j1 : IntKind.i64.wrap (x - (L : Int)) = x - (L : Int) := by rw [IntKind.wrap_i64]; omega
        have hq3 : 0 < q3 := by omega
        obtain ⟨i0, hi0, hz0, hz1, hz2⟩ := info_parts info_long
        have hwz := hC.bel.size
        have hv0 : u.ownBlock ≠ some w.heap.size := fun e => by have := (HC.out.own.lt _ e).1; omega
        clear hadd hzs hC hxp hpk
        go_wp2_with fail
        go_region_held3 (fun w' => w'.cell? ⟨w.heap.size, 0, none⟩ = some (.int .i64 (L : Int)))
          (first
            | go_keep
            | (rw [hgrow.cell_far _ (by simp; omega) (Ne.symm hv0)]; assumption))
          ((refine step_append_lies _ (by rfl) _ _ _ (by rfl) (w.heap.size + 1) 2 i0 _ 1 8 und_longs hi0 hz0 hz1 hz2 rfl (by omega) u zs.length _ (by rfl) ((HC.out.own.alloc _).drew)
              ⟨W.heap.size, 0, none⟩ 1 1 [.int .i64 (h : Int)] (by rfl) (by rfl) (World.news_of_block (cs := #[.int .i64 (h : Int)]) (t := 2) (fr := (0, 0)) (heap_alloc_new W _)) (by simp [Value.oneCell'])
              (by omega) (by simp only [maxLen]; omega) (by omega) (by simp; omega) (W.heap.size + 1) (by simp) ?_; intro gg cap w3 hown1 hgrow hat hlt'))
        have hP3 := (HC.out.later (bdrew (balloc (brefl W) (.cells #[.int .i64 (h : Int)] 2)) 1)).grown (h : Int) hgrow hown1
        rw [← Hadd.out] at hP3
        have HP3 := Lib.hid hP3
        clear hown1 hgrow hat hP3 hlt'
        go_wp2
        refine hK3 _ _ (q3 - 1) (by omega) ⟨rfl, k + 1, p + L, _, _, Hn.out.1, Hn.out.2, HP3.out, ?_⟩
        repeat (first | exact fits_nil | refine fits_none ?_ | refine fits_some ?_)
      · have hku : Fill.upN cc L = k := upN_is hL.1 (by rw [← hpk]; omega) (by rcases hxp.1.2 with h | h; exact .inl h; exact .inr (by rw [← hpk]; exact h))
        have hsu := Hsu.out
        rw [hku] at hsu
        rw [← hsu] at HC
        clear hK3 hC hxp hpk hku hsu c0 c2
        go_wp2
        refine hK _ _ (q - 1) (by omega) ⟨rfl, h + 1, _, by omega, HC.out, ?_⟩
        repeat (first | exact fits_nil | refine fits_none ?_ | refine fits_some ?_)
  · obtain rfl : h = 101 := by omega
    have hv : ∃ G k, v = .slice G (orderOf L hs).length k ∧ Sl 1 encI W W.heap.size G (orderOf L hs).length k (orderOf L hs) := own_slI hC.own rfl
    obtain ⟨G, k, rfl, hsl⟩ := hv
    have Hsl := Lib.hid hsl
    clear hK hC hsl hlt
    go_wp2
    go_ret
    exact ⟨G, k, rfl, HC.out.bel, Hsl.out⟩
end Go.Proofs.Ytbbdlebmagknmaa
