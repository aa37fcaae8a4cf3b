/- The walk of ClipMore. -/
import Derived.Test.YtjmphmnimnbgkaaJoined
import Derived.Deep.RegionHeld3
namespace Go.Proofs.Ytjmphmnimnbgkaa
open Go.RowKit Go.Shelf

/-! ### Lists of kinds of the call's own -/
theorem info_kind : (Try.prog.info? 67).map (fun i => (i.zero, i.size, i.bytes)) = some (some (.agg #[.int .i64 0, .int .i64 0, .int .i64 0]), 3, 24) := by kernel_rfl
theorem und_kinds : Try.prog.underlying 25 = some (.slice 67) := by kernel_rfl
theorem flatKd : ∀ (xs : List Kd) (i : Nat) (x : Kd), xs[i]? = some x → ∀ j, j < 3 → (xs.flatMap encK)[i * 3 + j]? = (encK x)[j]?
  | [], i, x, h, _, _ => by simp at h
  | y :: xs, 0, x, h, j, hj => by
    simp only [List.getElem?_cons_zero, Option.some.injEq] at h
    subst h
    rw [List.flatMap_cons, Nat.zero_mul, Nat.zero_add, List.getElem?_append_left (by simp [encK]; omega)]
  | y :: xs, i + 1, x, h, j, hj => by
    rw [List.getElem?_cons_succ] at h
    rw [List.flatMap_cons, List.getElem?_append_right (by simp [encK]; omega)]
    have := flatKd xs i x h j hj
    rw [← this]
    congr 1
    simp [encK]
    omega
theorem flatK_len (xs : List Kd) : (xs.flatMap encK).length = xs.length * 3 := by
  induction xs with
  | nil => rfl
  | cons x xs ih => rw [List.flatMap_cons, List.length_append, ih]; simp [encK]; omega
theorem flatK_one (xs : List Kd) : ∀ u ∈ xs.flatMap encK, u.oneCell' = true := by
  intro u hu
  obtain ⟨x, _, hx⟩ := List.mem_flatMap.1 hu
  simp only [encK, List.mem_cons, List.not_mem_nil, or_false] at hx
  rcases hx with rfl | rfl | rfl <;> rfl
theorem kinds_news {W : World} {B b o : Nat} {n c : Nat} {xs : List Kd} (h : Sl 3 encK W B (some ⟨b, o, none⟩) n c xs) (hn : 0 < n) : ∀ j u, (xs.flatMap encK)[j]? = some u → W.cell? ((⟨b, o, none⟩ : Addr).add j) = some u := by
  intro j u hu
  obtain ⟨b', o', hA, _, hc⟩ := h.at_ hn
  cases hA
  have hj : j < xs.length * 3 := by rw [← flatK_len]; exact (List.getElem?_eq_some_iff.1 hu).1
  have hq : j / 3 < xs.length := by omega
  have hx : xs[j / 3]? = some xs[j / 3] := List.getElem?_eq_getElem hq
  have h1 := flatKd xs (j / 3) _ hx (j % 3) (by omega)
  rw [show j / 3 * 3 + j % 3 = j by omega, hu] at h1
  have h2 := hc (j / 3) _ hx (j % 3) u h1.symm
  have hadd : (⟨b, o, none⟩ : Addr).add j = ⟨b, o + j, none⟩ := by unfold Addr.add; split <;> simp_all
  rw [hadd, ← h2]
  congr 2
  omega
theorem add_at (g j : Nat) : (⟨g, 0, none⟩ : Addr).add j = ⟨g, j, none⟩ := by unfold Addr.add; split <;> simp_all
set_option maxRecDepth 100000 in
/-- A row of kinds of the call's own reads as kinds, and can be written. -/
theorem own_slK {W : World} {base g cap : Nat} {xs : List Kd} {n : Nat} (h : W.ownsRow base 67 3 (.slice (some ⟨g, 0, none⟩) n cap) xs.length (xs.flatMap encK)) (hn : xs.length = n) : base ≤ g ∧ (∃ cs, Blk W g 67 cs) ∧ Sl 3 encK W W.heap.size (some ⟨g, 0, none⟩) n cap xs := by
  have hc := h.cells rfl
  rcases h.2 with ⟨hv, _⟩ | ⟨g', cap', cur, hv, hb, hg, h1, h2, h3, _⟩
  · cases hv
  · simp only [Value.slice.injEq, Option.some.injEq, Addr.mk.injEq, and_true] at hv
    obtain ⟨rfl, hl, rfl⟩ := hv
    have hlt := (Array.getElem?_eq_some_iff.1 hg).1
    refine ⟨hb, ⟨cur, hg⟩, hn, by omega, Nat.le_trans h2 (by decide), fun _ => ⟨g, 0, rfl, hlt, fun i x hx j u hu => ?_⟩⟩
    have hj : j < 3 := (List.getElem?_eq_some_iff.1 hu).1
    have := hc (i * 3 + j) u (by rw [flatKd xs i x hx j hj]; exact hu)
    have hadd : (⟨g, 0, none⟩ : Addr).add (i * 3 + j) = ⟨g, i * 3 + j, none⟩ := add_at g (i * 3 + j)
    rw [hadd] at this
    rw [← this]
    congr 2
    omega
/-- The Price of one of them is written. -/
theorem Sl.setK {W : World} {B g n c : Nat} {xs : List Kd} (h : Sl 3 encK W B (some ⟨g, 0, none⟩) n c xs) {j : Nat} {x : Kd} (hx : xs[j]? = some x) (p : Int) : Sl 3 encK (W.setCell ⟨g, j * 3 + 1, none⟩ (.int .i64 p)) B (some ⟨g, 0, none⟩) n c (xs.set j ⟨x.w, p, x.m⟩) := by
  have hjl := (List.getElem?_eq_some_iff.1 hx).1
  refine ⟨by rw [List.length_set]; exact h.len, h.cap, h.big, fun hn => ?_⟩
  obtain ⟨b, o, hA, hB, hc⟩ := h.at_ hn
  cases hA
  refine ⟨g, 0, rfl, hB, fun i y hy q u hu => ?_⟩
  have hq : q < 3 := (List.getElem?_eq_some_iff.1 hu).1
  have hcell : W.cell? ⟨g, j * 3 + 1, none⟩ = some (.int .i64 x.p) := by have := hc j x hx 1 _ rfl; simpa using this
  rw [List.getElem?_set] at hy
  by_cases e : j = i
  · subst e
    rw [if_pos rfl, if_pos hjl, Option.some.injEq] at hy
    subst hy
    by_cases e2 : q = 1
    · subst e2
      simp only [encK, List.getElem?_cons_succ, List.getElem?_cons_zero, Option.some.injEq] at hu
      subst hu
      rw [Nat.zero_add]
      exact World.cell?_setCell_same _ _ _ hcell
    · have hne : (⟨g, j * 3 + 1, none⟩ : Addr) ≠ ⟨g, 0 + j * 3 + q, none⟩ := by simp; try omega
      rw [World.cell?_setCell_other (h := hne)]
      refine hc j x hx q u ?_
      rw [← hu]
      have : q = 0 ∨ q = 2 := by omega
      rcases this with rfl | rfl <;> rfl
  · rw [if_neg e] at hy
    have hne : (⟨g, j * 3 + 1, none⟩ : Addr) ≠ ⟨g, 0 + i * 3 + q, none⟩ := by simp; try omega
    rw [World.cell?_setCell_other (h := hne)]
    exact hc i y hy q u hu
/-- All kinds are appended to an empty list. -/
theorem run_app_kinds {W : World} {base g : Nat} (ty : TypeId) (hb : base ≤ g) (hg : W.heap[g]? = some (.cells #[] 67 (0, 0))) {b o kc : Nat} {ks : List Kd} (hs : Sl 3 encK W W.heap.size (some ⟨b, o, none⟩) ks.length kc ks) (h1 : 1 ≤ ks.length) (h2 : ks.length ≤ 100) :
    ∃ v' W', (Builtin.append_ #[25, 25] ty #[.slice (some ⟨g, 0, none⟩) 0 0, .slice (some ⟨b, o, none⟩) ks.length kc]).run Try.prog W = .ok v' W' ∧ (W'.ownsRow base 67 3 v' ks.length (ks.flatMap encK) ∧ W.grownBy W' (some g) ∧ ∃ gg cap, v' = .slice (some ⟨gg, 0, none⟩) ks.length cap) := by
  obtain ⟨i0, hi0, hz0, hz1, hz2⟩ := info_parts info_kind
  have hlt : g < W.heap.size := (Array.getElem?_eq_some_iff.1 hg).1
  obtain ⟨v', W', h1', h2', h3', _⟩ := run_append_own (P := Try.prog) W base 25 ty 67 i0 (.agg #[.int .i64 0, .int .i64 0, .int .i64 0]) 3 24 und_kinds hi0 hz0 hz1 hz2 rfl (by decide) _ 0 [] (own_empty (size := 3) hb hg) ⟨b, o, none⟩ ks.length kc (ks.flatMap encK) (flatK_len ks) (kinds_news hs (by omega)) (flatK_one ks) (by simp only [maxLen]; omega) (by omega) (by omega)
  rw [Nat.zero_add, List.nil_append] at h2'
  obtain ⟨k, hk⟩ : ∃ k, ks.length = k + 1 := ⟨ks.length - 1, by omega⟩
  have h2'' := h2'
  rw [hk] at h2''
  obtain ⟨gg, cap, rfl⟩ := own_succ h2''
  rw [← hk] at *
  exact ⟨_, W', h1', h2', h3', gg, cap, rfl⟩
/-- One kind more. -/
theorem run_app_kind {W : World} {base N : Nat} (ty : TypeId) {v : Value} {ks kx : List Kd} {k : Kd} (hkx : ks ++ [k] = kx) (hown : W.ownsRow base 67 3 v ks.length (ks.flatMap encK)) (hn : ∀ j u, (encK k)[j]? = some u → W.cell? ((⟨N, 0, none⟩ : Addr).add j) = some u) (h2 : ks.length ≤ 100) (hb : base ≤ W.heap.size) :
    ∃ v' W', (Builtin.append_ #[25, 25] ty #[v, .slice (some ⟨N, 0, none⟩) 1 1]).run Try.prog W = .ok v' W' ∧ (W'.ownsRow base 67 3 v' kx.length (kx.flatMap encK) ∧ W.grownBy W' v.ownBlock ∧ ∃ gg cap, v' = .slice (some ⟨gg, 0, none⟩) kx.length cap) := by
  subst hkx
  obtain ⟨i0, hi0, hz0, hz1, hz2⟩ := info_parts info_kind
  obtain ⟨v', W', h1', h2', h3', _⟩ := run_append_own (P := Try.prog) W base 25 ty 67 i0 (.agg #[.int .i64 0, .int .i64 0, .int .i64 0]) 3 24 und_kinds hi0 hz0 hz1 hz2 rfl (by decide) v ks.length _ hown ⟨N, 0, none⟩ 1 1 (encK k) rfl hn (by simpa using flatK_one [k]) (by simp only [maxLen]; omega) (by omega) hb
  obtain ⟨gg, cap, rfl⟩ := own_succ h2'
  refine ⟨_, W', h1', ?_, h3', gg, cap, ?_⟩
  · simpa [List.flatMap_append] using h2'
  · simp
/-- A list of kinds was made, above all that was there. -/
structure KW (Wb W : World) (u : Value) (l : List Kd) : Prop where
  bel : Below Wb.heap.size Wb W
  own : W.ownsRow Wb.heap.size 67 3 u l.length (l.flatMap encK)
theorem below_grown {B : Nat} {w Wc W3 : World} {g : Nat} (hW : Below B w Wc) (hgr : Wc.grownBy W3 (some g)) (hB : B ≤ g) (hs : B ≤ Wc.heap.size) : Below B w W3 :=
  hW.trans ⟨hgr.os, hgr.tape, hgr.output, hgr.size, fun i hi => hgr.block i (by omega) (fun e => by cases e; omega)⟩
theorem three_new (w : World) (k : Kd) (t : TypeId) : ∀ j u, (encK k)[j]? = some u → (w.alloc (.cells #[.int .i64 k.w, .int .i64 k.p, .int .i64 k.m] t)).cell? ((⟨w.heap.size, 0, none⟩ : Addr).add j) = some u := by
  intro j u hu
  have hadd : (⟨w.heap.size, 0, none⟩ : Addr).add j = ⟨w.heap.size, j, none⟩ := by unfold Addr.add; split <;> simp_all
  rw [hadd, (Blk.new w t _).cell]
  simpa [encK] using hu
theorem blk_news {W : World} {b : Nat} {k : Kd} {t : TypeId} (h : Blk W b t #[.int .i64 k.w, .int .i64 k.p, .int .i64 k.m]) : ∀ j u, (encK k)[j]? = some u → W.cell? ((⟨b, 0, none⟩ : Addr).add j) = some u := by
  intro j u hu
  have hadd : (⟨b, 0, none⟩ : Addr).add j = ⟨b, j, none⟩ := by unfold Addr.add; split <;> simp_all
  rw [hadd, h.cell]
  simpa [encK] using hu

/-- A copy of the kinds lies in block g, above all that was there. -/
structure YW (Wb W : World) (g n cap : Nat) (l : List Kd) : Prop where
  bel : Below Wb.heap.size Wb W
  base : Wb.heap.size ≤ g
  blk : ∃ cs, Blk W g 67 cs
  sl : Sl 3 encK W W.heap.size (some ⟨g, 0, none⟩) n cap l
theorem YW.later {Wb W W' : World} {g n cap : Nat} {l : List Kd} (h : YW Wb W g n cap l) (hb : Below W.heap.size W W') : YW Wb W' g n cap l := by
  obtain ⟨cs, hcs⟩ := h.blk
  exact ⟨Below.later h.bel hb, h.base, ⟨cs, hcs.later hb⟩, h.sl.later hb⟩
theorem YW.set {Wb W : World} {g n cap : Nat} {l : List Kd} (h : YW Wb W g n cap l) {j : Nat} {x : Kd} (hx : l[j]? = some x) (p : Int) : YW Wb (W.setCell ⟨g, j * 3 + 1, none⟩ (.int .i64 p)) g n cap (l.set j ⟨x.w, p, x.m⟩) := by
  obtain ⟨cs, hcs⟩ := h.blk
  refine ⟨h.bel.setCell h.base _, h.base, ⟨_, hcs.set (j * 3 + 1) (.int .i64 p)⟩, ?_⟩
  have := h.sl.setK hx p
  rw [World.size_setCell]
  exact this
theorem YW.cell {Wb W : World} {g n cap : Nat} {l : List Kd} (h : YW Wb W g n cap l) {j : Nat} {x : Kd} (hx : l[j]? = some x) : W.cell? ⟨g, j * 3 + 1, none⟩ = some (.int .i64 x.p) ∧ W.frozen? ⟨g, j * 3 + 1, none⟩ = false ∧ g < W.heap.size := by
  obtain ⟨cs, hcs⟩ := h.blk
  have hl := (List.getElem?_eq_some_iff.1 hx).1
  have hln := h.sl.len
  obtain ⟨b, o, hA, _, hc⟩ := h.sl.at_ (by omega)
  cases hA
  have := hc j x hx 1 _ rfl
  exact ⟨by simpa using this, hcs.frozen _, hcs.lt⟩
theorem YW.made {Wb W3 : World} {ks : List Kd} {v' : Value} (h1 : 1 ≤ ks.length) (hown : W3.ownsRow Wb.heap.size 67 3 v' (0 + ks.length) ([] ++ ks.flatMap encK)) (hgr : (Wb.alloc (.cells #[] 67)).grownBy W3 (Value.slice (some ⟨Wb.heap.size, 0, none⟩) 0 0).ownBlock) : ∃ g cap, v' = .slice (some ⟨g, 0, none⟩) ks.length cap ∧ YW Wb W3 g ks.length cap ks := by
  rw [Nat.zero_add, List.nil_append] at hown
  have h2 := hown
  obtain ⟨k, hk⟩ : ∃ k, ks.length = k + 1 := ⟨ks.length - 1, by omega⟩
  rw [hk] at h2
  obtain ⟨g, cap, rfl⟩ := own_succ h2
  rw [← hk] at hown ⊢
  obtain ⟨b1, b2, b3⟩ := own_slK hown rfl
  exact ⟨g, cap, rfl, below_grown (balloc (brefl Wb) _) hgr (Nat.le_refl _) (by simp), b1, b2, b3⟩

/-- The first i Prices are t times as great. -/
def zK (t : Int) (ks : List Kd) (i : Nat) : List Kd := timesK t (ks.take i) ++ ks.drop i
theorem zK_zero (t : Int) (ks : List Kd) : zK t ks 0 = ks := by unfold zK timesK; simp
theorem zK_all (t : Int) (ks : List Kd) : zK t ks ks.length = timesK t ks := by unfold zK; simp
theorem zK_at {t : Int} {ks : List Kd} {i : Nat} {x : Kd} (hx : ks[i]? = some x) : (zK t ks i)[i]? = some x := by
  obtain ⟨h1, rfl⟩ := List.getElem?_eq_some_iff.1 hx
  unfold zK timesK
  rw [List.getElem?_append_right (by simp; omega)]
  simp only [List.length_map, List.length_take, List.getElem?_drop]
  rw [show i + (i - min i ks.length) = i by omega]
  exact hx
theorem zK_step {t : Int} {ks : List Kd} {i : Nat} {x : Kd} (hx : ks[i]? = some x) : (zK t ks i).set i ⟨x.w, x.p * t, x.m⟩ = zK t ks (i + 1) := by
  obtain ⟨h1, rfl⟩ := List.getElem?_eq_some_iff.1 hx
  unfold zK timesK
  rw [List.drop_eq_getElem_cons h1, List.take_succ_eq_append_getElem h1, List.map_append, List.append_assoc, List.set_append_right _ _ (by simp; omega)]
  congr 1
  simp only [List.length_map, List.length_take]
  rw [show i - min i ks.length = 0 by omega]
  rfl
theorem zK_len (t : Int) (ks : List Kd) (i : Nat) : (zK t ks i).length = ks.length := by unfold zK timesK; simp; omega

set_option maxRecDepth 100000 in
set_option maxHeartbeats 8000000 in
theorem more_law (L : Int) (FA : Option Addr) (fn fc : Nat) (fs : List Int) (KA : Option Addr) (kc : Nat) (ks : List Kd) (kd : Kd) (wh wm : Int) (w : World) (hfs : Sl 1 encI w w.heap.size FA fn fc fs) (hks : Sl 3 encK w w.heap.size KA ks.length kc ks) (hwh : 0 ≤ wh ∧ wh ≤ 255) (hwm : 0 ≤ wm ∧ wm ≤ 255) :
    Calls Try.prog 13 #[.agg #[.int .i64 L, .slice FA fn fc], .slice KA ks.length kc, .agg #[.int .i64 kd.w, .int .i64 kd.p, .int .i64 kd.m], .int .u8 wh, .int .u8 wm] w fun e w' => e = .returned (.bool true) ∧ Below w.heap.size w w' := by
  have hB := balloc (balloc (brefl w) (.cells #[.int .i64 L, .slice FA fn fc] 24)) (.cells #[.int .i64 kd.w, .int .i64 kd.p, .int .i64 kd.m] 67)
  have HK := Lib.hid (show LW w ((w.alloc (.cells #[.int .i64 L, .slice FA fn fc] 24)).alloc (.cells #[.int .i64 kd.w, .int .i64 kd.p, .int .i64 kd.m] 67)) w.heap.size L FA fn fc fs KA kc ks from ⟨hB, (Blk.new w _ _).alloc _, hfs.later hB, hks.later hB⟩)
  have hb1 := Blk.new (w.alloc (.cells #[.int .i64 L, .slice FA fn fc] 24)) 67 #[.int .i64 kd.w, .int .i64 kd.p, .int .i64 kd.m]
  rw [World.size_alloc] at hb1
  have HD := Lib.hid hb1
  have hfi := Lib.hid (fun ks' KA' kc' W h1 h2 => fine_any L FA fn fc fs KA' kc' ks' W h1 h2)
  have hfsl := hfs.len
  clear hB hb1 hfs hks
  cases h1 : fineB L fn fs ks with
  | false =>
    have hf1 := Lib.hid (fun W h2 h3 => by have := hfi.out ks KA kc W h2 h3; rw [h1] at this; exact this)
    clear h1 hfi
    go_enter Try.func13, Try.ntmps13
    go_wp2_with fail
    refine (hf1.out _ HK.out.fsl HK.out.ksl).mono ?_
    rintro e w1 ⟨rfl, hb1⟩
    have HB := Lib.hid (Below.later HK.out.bel hb1)
    clear hb1
    go_wp2_with fail
    refine (works_any _).mono ?_
    rintro e w2 ⟨rfl, hb2⟩
    have HB2 := Lib.hid (Below.later HB.out hb2)
    clear hb2
    go_wp2
    go_ret
    exact ⟨rfl, HB2.out⟩
  | true =>
  have hf1 := Lib.hid (fun W h2 h3 => by have := hfi.out ks KA kc W h2 h3; rw [h1] at this; exact this)
  obtain ⟨he, hfn, hkl⟩ := fine_rk h1
  obtain ⟨n, rfl, hl1, hl2, hko⟩ := valid_nat he
  obtain ⟨hri, hkn⟩ := rk_rib he
  have hk1 := hko.1
  have hk6 := hko.2.1
  obtain ⟨kb, ko, hKA⟩ : ∃ kb ko, KA = some ⟨kb, ko, none⟩ := by
    obtain ⟨b, o, _, hA, _⟩ := HK.out.ksl.ltK (show 0 < ks.length by omega)
    exact ⟨b, o, hA⟩
  subst hKA
  obtain ⟨kx, hkx⟩ : ∃ kx, ks ++ [kd] = kx := ⟨_, rfl⟩
  have hxl : kx.length = ks.length + 1 := by rw [← hkx]; simp
  obtain ⟨j, hj⟩ : ∃ j : Nat, wh.tmod (ks.length : Int) = (j : Int) := ⟨(wh.tmod (ks.length : Int)).toNat, by
    rw [Int.tmod_eq_emod_of_nonneg (by omega)]
    have := Int.emod_nonneg wh (show (ks.length : Int) ≠ 0 by omega)
    omega⟩
  have hjl : j < ks.length := by
    rw [Int.tmod_eq_emod_of_nonneg (by omega)] at hj
    have := Int.emod_lt_of_pos wh (show (0 : Int) < ks.length by omega)
    omega
  obtain ⟨xj, hxj⟩ : ∃ xj, ks[j]? = some xj := ⟨_, List.getElem?_eq_getElem hjl⟩
  have hxb := hko.bd hxj
  obtain ⟨pn, hpn⟩ : ∃ pn : Int, (if xj.p + wm < 1000 then xj.p + wm else 1000) = pn := ⟨_, rfl⟩
  have hpb : xj.p ≤ pn ∧ pn ≤ 1000 := by rw [← hpn]; split <;> omega
  obtain ⟨ky, hky⟩ : ∃ ky, ks.set j ⟨xj.w, pn, xj.m⟩ = ky := ⟨_, rfl⟩
  have hyl : ky.length = ks.length := by rw [← hky, List.length_set]
  have hkoy : KOk ky := by
    refine ⟨by omega, by omega, fun x hx => ?_⟩
    rw [← hky] at hx
    rcases List.mem_or_eq_of_mem_set hx with h | h
    · exact hko.2.2 x h
    · rw [h, badK_iff]
      exact ⟨hxb.1, by show 1 ≤ pn ∧ pn ≤ 1000; omega, hxb.2.2⟩
  have hrY : rkE (n : Int) fs ky = 0 := rk_of hri (knd_of hkoy)
  have hwY : behindAt n (Fst fs n) ks n 0 ≤ behindAt n (Fst fs n) ky n 0 := worth_dom hko hkoy fun i k x hx hc => by
    by_cases e : k = j
    · subst e
      rw [hxj] at hx
      cases hx
      refine ⟨k, ⟨xj.w, pn, xj.m⟩, by rw [← hky, List.getElem?_set, if_pos rfl, if_pos hjl], rfl, hpb.1, ?_⟩
      rw [canB_iff] at hc ⊢
      exact hc
    · exact ⟨k, x, by rw [← hky, List.getElem?_set, if_neg (fun h => e h.symm)]; exact hx, rfl, Int.le_refl _, hc⟩
  have hwX : fineB (n : Int) fn fs kx = true → rkE (n : Int) fs kx = 0 ∧ behindAt n (Fst fs n) ks n 0 ≤ behindAt n (Fst fs n) kx n 0 := fun h => by
    obtain ⟨hex, _, _⟩ := fine_rk h
    obtain ⟨_, _, _, _, hkox⟩ := valid_nat hex
    refine ⟨hex, worth_dom hko hkox fun i k x hx hc => ⟨k, x, ?_, rfl, Int.le_refl _, hc⟩⟩
    rw [← hkx, List.getElem?_append_left (List.getElem?_eq_some_iff.1 hx).1]
    exact hx
  obtain ⟨t, ht⟩ : ∃ t : Int, 1 + wm.tmod 4 = t := ⟨_, rfl⟩
  have htb : 1 ≤ t ∧ t ≤ 4 := by rw [Int.tmod_eq_emod_of_nonneg (by omega)] at ht; omega
  obtain ⟨kz, hkz⟩ : ∃ kz, timesK t ks = kz := ⟨_, rfl⟩
  have hzl : kz.length = ks.length := by rw [← hkz]; unfold timesK; simp
  have hwZ : fineB (n : Int) fn fs kz = true → rkE (n : Int) fs kz = 0 ∧ behindAt n (Fst fs n) kz n 0 = t * behindAt n (Fst fs n) ks n 0 ∧ firstAt n (Fst fs n) kz (behindAt n (Fst fs n) kz n) n 0 = firstAt n (Fst fs n) ks (behindAt n (Fst fs n) ks n) n 0 ∧
      manyAt n (Fst fs n) kz (behindAt n (Fst fs n) kz n) n 0 = manyAt n (Fst fs n) ks (behindAt n (Fst fs n) ks n) n 0 := fun h => by
    obtain ⟨hex, _, _⟩ := fine_rk h
    obtain ⟨_, _, _, _, hkoz⟩ := valid_nat hex
    rw [← hkz] at hkoz
    have := times_law (L := n) (F := Fst fs n) hko hkoz htb.1
    rw [hkz] at this
    exact ⟨hex, this⟩
  have hbv := behindAt_bd (L := n) (F := Fst fs n) hko n (Nat.le_refl _) 0
  obtain ⟨v0, hv0⟩ : ∃ v0, behindAt n (Fst fs n) ks n 0 = v0 := ⟨_, rfl⟩
  obtain ⟨vy, hvy⟩ : ∃ vy, behindAt n (Fst fs n) ky n 0 = vy := ⟨_, rfl⟩
  obtain ⟨vx, hvx⟩ : ∃ vx, behindAt n (Fst fs n) kx n 0 = vx := ⟨_, rfl⟩
  obtain ⟨m0, hm0⟩ : ∃ m0, manyAt n (Fst fs n) ks (behindAt n (Fst fs n) ks n) n 0 = m0 := ⟨_, rfl⟩
  obtain ⟨cc, hcc⟩ : ∃ cc, firstAt n (Fst fs n) ks (behindAt n (Fst fs n) ks n) n 0 = cc := ⟨_, rfl⟩
  rw [hv0] at hbv
  rw [hv0, hvy] at hwY
  rw [hv0, hvx] at hwX
  rw [hv0, hm0, hcc] at hwZ
  obtain ⟨tv, htv⟩ : ∃ tv, t * v0 = tv := ⟨_, rfl⟩
  rw [htv] at hwZ
  have htv2 : 0 ≤ tv ∧ tv ≤ 96000 := by
    rw [← htv]
    refine ⟨Int.mul_nonneg (by omega) (by omega), ?_⟩
    have h1 : t * v0 ≤ 4 * v0 := Int.mul_le_mul_of_nonneg_right htb.2 (by omega)
    omega
  have a0 : IntKind.i64.wrap wh = wh := by rw [IntKind.wrap_i64]; omega
  have a1 : IntKind.i64.wrap wm = wm := by rw [IntKind.wrap_i64]; omega
  have a2 : (ks.length : Int) ≠ 0 := by omega
  have a3 : IntKind.i64.wrap (j : Int) = (j : Int) := by rw [IntKind.wrap_i64]; omega
  have a4 : decide (vy < v0) = false := by simp; omega
  have a5 : IntKind.i64.wrap (t * v0) = tv := by rw [IntKind.wrap_i64]; omega
  obtain ⟨t4, ht4⟩ : ∃ t4, wm.tmod 4 = t4 := ⟨_, rfl⟩
  rw [ht4] at ht
  have a6 : IntKind.u8.wrap t4 = t4 := by
    rw [Int.tmod_eq_emod_of_nonneg (by omega)] at ht4
    rw [IntKind.wrap_u8]; omega
  have a7 : IntKind.i64.wrap t4 = t4 := by rw [IntKind.wrap_i64]; omega
  have a8 : IntKind.i64.wrap (1 + t4) = t := by rw [IntKind.wrap_i64]; omega
  have Hkx := Lib.hid hkx
  have Hxl := Lib.hid hxl
  have Hky := Lib.hid hky
  have Hyl := Lib.hid hyl
  have Hkz := Lib.hid hkz
  have Hzl := Lib.hid hzl
  have Hxj := Lib.hid hxj
  have Hxb := Lib.hid hxb
  have HwX := Lib.hid hwX
  have HeY := Lib.hid hrY
  have HwZ := Lib.hid hwZ
  have Hv0 := Lib.hid hv0
  have Hvx := Lib.hid hvx
  have Hvy := Lib.hid hvy
  have Hm0 := Lib.hid hm0
  have Hcc := Lib.hid hcc
  have He := Lib.hid he
  have Hk := Lib.hid hko
  have Hpn := Lib.hid hpn
  have Htb := Lib.hid htb
  have Hbd := Lib.hid (fun (i : Nat) (x : Kd) (h : ks[i]? = some x) => hko.bd h)
  clear h1 hri hkn hkx hxl hky hyl hkz hzl hxj hxb hwX hrY hwZ hv0 hvx hvy hm0 hcc he hko hpn hkoy hwY hbv htv htv2 ht htb hpb
  obtain ⟨c0, c1, c2⟩ := HK.out.cells
  go_enter Try.func13, Try.ntmps13
  clear c0 c1 c2
  go_wp2_with fail
  refine (hf1.out _ HK.out.fsl HK.out.ksl).mono ?_
  rintro e w1 ⟨rfl, hb1⟩
  have HK1 := Lib.hid (HK.out.later hb1)
  have HD1 := Lib.hid (HD.out.later hb1)
  obtain ⟨c0, c1, c2⟩ := HK1.out.cells
  clear hb1 HK HD hf1
  go_wp2_with fail
  refine (best_fine n FA fn fc fs (some ⟨kb, ko, none⟩) kc ks _ HK1.out.fsl HK1.out.ksl He.out).mono ?_
  rintro e w2 ⟨G2, n2, d2, rfl, hb2, hS2⟩
  rw [Hv0.out]
  rw [Hcc.out] at hS2
  have HK2 := Lib.hid (HK1.out.later hb2)
  have HD2 := Lib.hid (HD1.out.later hb2)
  have HC2 := Lib.hid hS2
  clear hb2 HK1 HD1 c0 c1 c2 hS2
  obtain ⟨c0, c1, c2⟩ := HK2.out.cells
  go_wp2_with fail
  refine (count_fine n FA fn fc fs (some ⟨kb, ko, none⟩) kc ks _ HK2.out.fsl HK2.out.ksl He.out).mono ?_
  rintro e W ⟨rfl, hb3⟩
  rw [Hm0.out]
  have HK3 := Lib.hid (HK2.out.later hb3)
  have HD3 := Lib.hid (HD2.out.later hb3)
  have HC3 := Lib.hid (HC2.out.later hb3)
  clear hb3 HK2 HD2 HC2 c0 c1 c2
  have e0 := HD3.out.cell 0
  have e1 := HD3.out.cell 1
  have e2 := HD3.out.cell 2
  have e3 := HD3.out.lt
  go_upto_region 7 with fail
  go_cut [16] from 30 (fun s16 wx => ∃ g cap, s16 = .slice (some ⟨g, 0, none⟩) kx.length cap ∧ KW W wx s16 kx)
  case first =>
    have hWle : w.heap.size + 1 < W.heap.size := e3
    have Hrun1 := Lib.hid (run_app_kinds (W := (W.alloc (.cells #[] 67)).drew) (base := W.heap.size) (g := W.heap.size) 25 (Nat.le_refl _) (heap_alloc_new W (.cells #[] 67)) (HK3.out.ksl.later (w' := (W.alloc (.cells #[] 67)).drew) (bdrew (balloc (brefl W) _) 1)) hk1 (by omega))
    have Hrun2 := Lib.hid (run_app_kinds (W := ((W.alloc (.cells #[] 67)).alloc (.cells #[.int .i64 kd.w, .int .i64 kd.p, .int .i64 kd.m] 67)).drew) (base := W.heap.size) (g := W.heap.size) 25 (Nat.le_refl _) (by have h5 := heap_alloc_new W (.cells #[] 67); have h6 := heap_alloc_old (W.alloc (.cells #[] 67)) (.cells #[.int .i64 kd.w, .int .i64 kd.p, .int .i64 kd.m] 67) (show W.heap.size < _ by rw [World.size_alloc]; omega); exact h6.trans h5) (HK3.out.ksl.later (w' := ((W.alloc (.cells #[] 67)).alloc (.cells #[.int .i64 kd.w, .int .i64 kd.p, .int .i64 kd.m] 67)).drew) (bdrew (balloc (balloc (brefl W) _) _) 1)) hk1 (by omega))
    have Hrun3 := Lib.hid (run_app_kinds (W := ((W.alloc (.cells #[.int .i64 kd.w, .int .i64 kd.p, .int .i64 kd.m] 67)).alloc (.cells #[] 67)).drew) (base := W.heap.size) (g := W.heap.size + 1) 25 (by omega) (by have h5 := heap_alloc_new (W.alloc (.cells #[.int .i64 kd.w, .int .i64 kd.p, .int .i64 kd.m] 67)) (.cells #[] 67); rw [World.size_alloc] at h5; exact h5) (HK3.out.ksl.later (w' := ((W.alloc (.cells #[.int .i64 kd.w, .int .i64 kd.p, .int .i64 kd.m] 67)).alloc (.cells #[] 67)).drew) (bdrew (balloc (balloc (brefl W) _) _) 1)) hk1 (by omega))
    have hbn := Blk.new (W.alloc (.cells #[] 67)) 67 #[.int .i64 kd.w, .int .i64 kd.p, .int .i64 kd.m]
    rw [World.size_alloc] at hbn
    have Hblk2 := Lib.hid (show Blk (((W.alloc (.cells #[] 67)).alloc (.cells #[.int .i64 kd.w, .int .i64 kd.p, .int .i64 kd.m] 67)).drew) (W.heap.size + 1) 67 #[.int .i64 kd.w, .int .i64 kd.p, .int .i64 kd.m] from hbn.later (bdrew (brefl _) 1))
    have Hblk3 := Lib.hid (show Blk (((W.alloc (.cells #[.int .i64 kd.w, .int .i64 kd.p, .int .i64 kd.m] 67)).alloc (.cells #[] 67)).drew) W.heap.size 67 #[.int .i64 kd.w, .int .i64 kd.p, .int .i64 kd.m] from ((Blk.new W 67 #[.int .i64 kd.w, .int .i64 kd.p, .int .i64 kd.m]).alloc _).later (bdrew (brefl _) 1))
    clear hbn
    go_region_held3 (fun w' => w'.cell? ⟨w.heap.size + 1, 0, none⟩ = some (.int .i64 kd.w) ∧ w'.cell? ⟨w.heap.size + 1, 1, none⟩ = some (.int .i64 kd.p) ∧ w'.cell? ⟨w.heap.size + 1, 2, none⟩ = some (.int .i64 kd.m))
      (first
        | go_keep)
      ((first
        | (refine step_of_run (R := ?R_1) ?hgd_1 (.tmp 54) (.tmp 55) 25 ?ho_1 (.slice (some ⟨W.heap.size, 0, none⟩) 0 0) (.slice (some ⟨kb, ko, none⟩) ks.length kc) ?hs_1 ?hx_1 ?hr_1 ?h_1; (case ho_1 => rfl); (case hgd_1 => rfl); (case hs_1 => rfl); (case hx_1 => rfl); (case hr_1 => exact Hrun1.out); intro v' W3 hR; obtain ⟨hown1, hgrow, gg, cap, rfl⟩ := hR; have hgg := (hown1.lt gg rfl).1; have hbe := below_grown (B := W.heap.size) (bdrew (balloc (brefl W) _) 1) hgrow (by omega) (by simp; try omega); have hsz3 := hbe.size; have yb := (HD3.out.later (bdrew (balloc (brefl W) _) 1)).grown hgrow (by simp; omega); have y0 := yb.cell 0; have y1 := yb.cell 1; have y2 := yb.cell 2; have y3 := yb.lt; have HrB := Lib.hid (run_app_kind (W := W3.alloc (.cells #[.int .i64 kd.w, .int .i64 kd.p, .int .i64 kd.m] 67)) (base := W.heap.size) 25 Hkx.out (hown1.alloc _) (three_new W3 kd _) (by omega) (by simp; omega)); have HY := Lib.hid (yb.alloc (.cells #[.int .i64 kd.w, .int .i64 kd.p, .int .i64 kd.m] 67)); have HBe := Lib.hid (balloc hbe (.cells #[.int .i64 kd.w, .int .i64 kd.p, .int .i64 kd.m] 67)); clear yb hbe)
        | (refine step_of_run (R := ?R_2) ?hgd_2 (.tmp 54) (.tmp 55) 25 ?ho_2 (.slice (some ⟨W.heap.size, 0, none⟩) 0 0) (.slice (some ⟨kb, ko, none⟩) ks.length kc) ?hs_2 ?hx_2 ?hr_2 ?h_2; (case ho_2 => rfl); (case hgd_2 => rfl); (case hs_2 => rfl); (case hx_2 => rfl); (case hr_2 => exact Hrun2.out); intro v' W3 hR; obtain ⟨hown1, hgrow, gg, cap, rfl⟩ := hR; have hgg := (hown1.lt gg rfl).1; have hbe := below_grown (B := W.heap.size) (bdrew (balloc (balloc (brefl W) _) _) 1) hgrow (by omega) (by simp; try omega); have hsz3 := hbe.size; have yb := (HD3.out.later (bdrew (balloc (balloc (brefl W) _) _) 1)).grown hgrow (by simp; omega); have y0 := yb.cell 0; have y1 := yb.cell 1; have y2 := yb.cell 2; have y3 := yb.lt; have HrB := Lib.hid (run_app_kind (W := W3) (base := W.heap.size) 25 Hkx.out hown1 (blk_news (Hblk2.out.grown hgrow (by simp))) (by omega) (by omega)); have HY := Lib.hid yb; have HBe := Lib.hid hbe; clear yb hbe)
        | (refine step_of_run (R := ?R_3) ?hgd_3 (.tmp 54) (.tmp 55) 25 ?ho_3 (.slice (some ⟨W.heap.size + 1, 0, none⟩) 0 0) (.slice (some ⟨kb, ko, none⟩) ks.length kc) ?hs_3 ?hx_3 ?hr_3 ?h_3; (case ho_3 => rfl); (case hgd_3 => rfl); (case hs_3 => rfl); (case hx_3 => rfl); (case hr_3 => exact Hrun3.out); intro v' W3 hR; obtain ⟨hown1, hgrow, gg, cap, rfl⟩ := hR; have hgg := (hown1.lt gg rfl).1; have hbe := below_grown (B := W.heap.size) (bdrew (balloc (balloc (brefl W) _) _) 1) hgrow (by omega) (by simp; try omega); have hsz3 := hbe.size; have yb := (HD3.out.later (bdrew (balloc (balloc (brefl W) _) _) 1)).grown hgrow (by simp; omega); have y0 := yb.cell 0; have y1 := yb.cell 1; have y2 := yb.cell 2; have y3 := yb.lt; have HrB := Lib.hid (run_app_kind (W := W3) (base := W.heap.size) 25 Hkx.out hown1 (blk_news (Hblk3.out.grown hgrow (by simp))) (by omega) (by omega)); have HY := Lib.hid yb; have HBe := Lib.hid hbe; clear yb hbe)
        | (refine step_of_run (R := ?R_4) ?hgd_4 (.tmp 56) (.tmp 58) 25 ?ho_4 (.slice (some ⟨gg, 0, none⟩) ks.length cap) (.slice (some ⟨W3.heap.size, 0, none⟩) 1 1) ?hs_4 ?hx_4 ?hr_4 ?h_4; (case ho_4 => rfl); (case hgd_4 => rfl); (case hs_4 => rfl); (case hx_4 => rfl); (case hr_4 => exact HrB.out); intro v' W4 hR; obtain ⟨hown2, hgrow2, gg2, cap2, rfl⟩ := hR; have zb := HY.out.grown hgrow2 (by simp [Value.ownBlock]; omega); have z0 := zb.cell 0; have z1 := zb.cell 1; have z2 := zb.cell 2; clear zb)
        | (refine step_of_run (R := ?R_5) ?hgd_5 (.tmp 56) (.tmp 58) 25 ?ho_5 (.slice (some ⟨gg, 0, none⟩) ks.length cap) (.slice (some ⟨W.heap.size + 1, 0, none⟩) 1 1) ?hs_5 ?hx_5 ?hr_5 ?h_5; (case ho_5 => rfl); (case hgd_5 => rfl); (case hs_5 => rfl); (case hx_5 => rfl); (case hr_5 => exact HrB.out); intro v' W4 hR; obtain ⟨hown2, hgrow2, gg2, cap2, rfl⟩ := hR; have zb := HY.out.grown hgrow2 (by simp [Value.ownBlock]; omega); have z0 := zb.cell 0; have z1 := zb.cell 1; have z2 := zb.cell 2; clear zb)
        | (refine step_of_run (R := ?R_6) ?hgd_6 (.tmp 56) (.tmp 58) 25 ?ho_6 (.slice (some ⟨gg, 0, none⟩) ks.length cap) (.slice (some ⟨W.heap.size, 0, none⟩) 1 1) ?hs_6 ?hx_6 ?hr_6 ?h_6; (case ho_6 => rfl); (case hgd_6 => rfl); (case hs_6 => rfl); (case hx_6 => rfl); (case hr_6 => exact HrB.out); intro v' W4 hR; obtain ⟨hown2, hgrow2, gg2, cap2, rfl⟩ := hR; have zb := HY.out.grown hgrow2 (by simp [Value.ownBlock]; omega); have z0 := zb.cell 0; have z1 := zb.cell 1; have z2 := zb.cell 2; clear zb)))
    all_goals
      have HJ := Lib.hid (show KW W W4 _ kx from ⟨below_grown HBe.out hgrow2 hgg HBe.out.size, hown2⟩)
      clear hown2 hgrow2 hown1 hgrow z0 z1 z2 y0 y1 y2 y3
      go_wp2_with fail
      go_meet
      exact ⟨_, _, rfl, HJ.out⟩
  case rest =>
    obtain ⟨g, cap, rfl, hKX⟩ := hcut
    obtain ⟨_, _, hSX⟩ := own_slK hKX.own rfl
    have HK4 := Lib.hid (HK3.out.later hKX.bel)
    have HC4 := Lib.hid (HC3.out.later hKX.bel)
    have HSX := Lib.hid hSX
    clear hKX hSX HK3 HC3 HD3 e0 e1 e2 e3
    obtain ⟨c0, c1, c2⟩ := HK4.out.cells
    obtain ⟨i0, hi0, hz0, hz1, hz2⟩ := info_parts info_kind
    cases hfx : fineB (n : Int) fn fs kx with
    | false =>
      have hf2 := Lib.hid (fun W h2 h3 => by have := hfi.out kx (some ⟨g, 0, none⟩) cap W h2 h3; rw [hfx] at this; exact this)
      clear hfx HwX
      go_wp2_with fail
      refine (hf2.out _ HK4.out.fsl HSX.out).mono ?_
      rintro e wY ⟨rfl, hb5⟩
      have HKy := Lib.hid (HK4.out.later hb5)
      have HCy := Lib.hid (HC4.out.later hb5)
      clear hb5 HK4 HC4 HSX c0 c1 c2 hf2
      obtain ⟨c0, c1, c2⟩ := HKy.out.cells
      have HEy := Lib.hid (own_empty (W := wY.alloc (.cells #[] 67)) (base := wY.heap.size) (g := wY.heap.size) (size := 3) (Nat.le_refl _) (heap_alloc_new wY (.cells #[] 67)))
      have HNy := Lib.hid (kinds_news (HKy.out.ksl.later (balloc (brefl wY) (.cells #[] 67))) (by omega))
      have Hfin := Lib.hid (fun v' W3 h1 h2 => YW.made (Wb := wY) (W3 := W3) (ks := ks) (v' := v') hk1 h1 h2)
      have hxjp : -10 ≤ xj.p + wm ∧ xj.p + wm ≤ 10000 := by have := Hxb.out; omega
      have b2 : IntKind.i64.wrap (xj.p + wm) = xj.p + wm := by rw [IntKind.wrap_i64]; omega
      have b3 : (j : Int) < (ks.length : Int) := by omega
      have b4 : (0 : Int) ≤ (j : Int) := by omega
      have hmn : (xj.p + wm < 1000 ∧ xj.p + wm = pn) ∨ (¬ xj.p + wm < 1000 ∧ 1000 = pn) := by
        have := Hpn.out
        split at this
        · left; exact ⟨by assumption, this⟩
        · right; exact ⟨by assumption, this⟩
      clear Hpn
      rcases hmn with ⟨hm1, rfl⟩ | ⟨hm1, rfl⟩
      all_goals
        go_wp2_with (at_builtin; refine wpList_append_own _ rfl _ _ 25 rfl wY.heap.size 67 i0 (.agg #[.int .i64 0, .int .i64 0, .int .i64 0]) 3 24 und_kinds hi0 hz0 hz1 hz2 rfl (by decide) (.slice (some ⟨wY.heap.size, 0, none⟩) 0 0) 0 [] rfl HEy.out ⟨kb, ko, none⟩ ks.length kc (ks.flatMap encK) rfl (flatK_len ks) HNy.out (flatK_one ks) (by simp only [maxLen]; omega) (by omega) (by simp) ?_; intro v' W3 hown' hgr _; obtain ⟨gy, cy, rfl, hY⟩ := Hfin.out v' W3 hown' hgr; obtain ⟨x1, x2, x3⟩ := hY.cell Hxj.out; have hgne : gy ≠ w.heap.size := (by have := hY.base; have := HKy.out.b0.lt; omega); obtain ⟨k0, k1, k2⟩ := (HKy.out.later hY.bel).cells; have HY := Lib.hid hY; clear hY hown' hgr)
        clear x1 x2 x3 k0 k1 k2 c0 c1 c2 hm1 b2 b3 b4
        have hcall : ∀ p, ks.set j ⟨xj.w, p, xj.m⟩ = ky → YW wY (W3.setCell ⟨gy, j * 3 + 1, none⟩ (.int .i64 p)) gy ks.length cy ky := fun p hp => by
          have := HY.out.set Hxj.out p
          rw [hp] at this
          exact this
        have hYs := hcall _ Hky.out
        clear hcall
        have HYs := Lib.hid hYs
        have HK6 := Lib.hid (HKy.out.later hYs.bel)
        have HC6 := Lib.hid (HCy.out.later hYs.bel)
        clear hYs
        have hbf := best_fine n FA fn fc fs (some ⟨gy, 0, none⟩) cy ky _ HK6.out.fsl (by rw [Hyl.out]; exact HYs.out.sl) HeY.out
        rw [Hyl.out] at hbf
        refine hbf.mono ?_
        clear hbf
        rintro e w7 ⟨G7, n7, d7, rfl, hb7, _⟩
        rw [Hvy.out]
        have HK7 := Lib.hid (HK6.out.later hb7)
        have HC7 := Lib.hid (HC6.out.later hb7)
        clear hb7 HK6 HC6 HYs HKy HCy HEy HNy Hfin HY hgne
        have HEz := Lib.hid (own_empty (W := w7.alloc (.cells #[] 67)) (base := w7.heap.size) (g := w7.heap.size) (size := 3) (Nat.le_refl _) (heap_alloc_new w7 (.cells #[] 67)))
        have HNz := Lib.hid (kinds_news (HK7.out.ksl.later (balloc (brefl w7) (.cells #[] 67))) (by omega))
        have Hfz := Lib.hid (fun v' W3 h1 h2 => YW.made (Wb := w7) (W3 := W3) (ks := ks) (v' := v') hk1 h1 h2)
        go_wp2_with (at_builtin; refine wpList_append_own _ rfl _ _ 25 rfl w7.heap.size 67 i0 (.agg #[.int .i64 0, .int .i64 0, .int .i64 0]) 3 24 und_kinds hi0 hz0 hz1 hz2 rfl (by decide) (.slice (some ⟨w7.heap.size, 0, none⟩) 0 0) 0 [] rfl HEz.out ⟨kb, ko, none⟩ ks.length kc (ks.flatMap encK) rfl (flatK_len ks) HNz.out (flatK_one ks) (by simp only [maxLen]; omega) (by omega) (by simp) ?_; intro v' W4 hown' hgr _; obtain ⟨gz, cz, rfl, hZ⟩ := Hfz.out v' W4 hown' hgr; have HZ := Lib.hid hZ; clear hZ hown' hgr)
        clear HEz HNz Hfz
        refine loop_n (fun m b W => b.defers = [] ∧ ∃ i : Nat, i + m = ks.length ∧ YW w7 W gz ks.length cz (zK t ks i) ∧ Fits (none :: none :: none :: none :: none :: some (.pointer (some ⟨w.heap.size, 0, none⟩)) :: none :: none :: none :: none :: none :: some (.int .i64 v0) :: some (.slice G2 n2 d2) :: none :: some (.int .i64 m0) :: none :: none :: none :: none :: none :: none :: none :: none :: none :: none :: some (.int .i64 t) :: some (.slice (some ⟨gz, 0, none⟩) ks.length cz) :: some (.int .i64 (i : Nat)) :: none :: none :: none :: none :: none :: none :: none :: none :: none :: none :: none :: none :: none :: none :: none :: none :: none :: none :: none :: none :: none :: none :: none :: none :: none :: none :: none :: none :: none :: none :: none :: none :: none :: none :: none :: none :: none :: none :: none :: none :: none :: none :: none :: none :: none :: none :: none :: none :: none :: none :: none :: none :: none :: none :: none :: none :: none :: none :: none :: none :: none :: none :: none :: none :: none :: none :: none :: none :: none :: none :: none :: none :: none :: none :: none :: none :: none :: none :: none :: none :: none :: none :: none :: none :: none :: none :: none :: none :: none :: none :: none :: none :: none :: none :: none :: none :: none :: none :: none :: none :: none :: none :: none :: none :: none :: none :: none :: none :: none :: none :: none :: none :: none :: none :: none :: none :: none :: none :: none :: none :: none :: none :: none :: none :: none :: none :: none :: none :: none :: none :: none :: none :: none :: none :: none :: none :: none :: none :: none :: none :: none :: none :: none :: none :: none :: none :: none :: none :: none :: none :: []) b.tmps.toList) ks.length ?_ ?_
        · refine ⟨rfl, 0, by omega, by rw [zK_zero]; exact HZ.out, ?_⟩
          repeat (first | exact fits_nil | refine fits_none ?_ | refine fits_some ?_)
        clear HZ
        intro m b W hI K hK
        obtain ⟨hds, i, him, hZ, hfit⟩ := hI
        obtain ⟨gf, hg⟩ := fits_act hfit
        rw [hds] at hg
        subst hg
        clear hfit hds
        simp only [fillP, Nat.reduceAdd]
        by_cases hlt : i < ks.length
        · have i1 : (i : Int) < (ks.length : Int) := by omega
          have i2 : (0 : Int) ≤ (i : Int) := by omega
          have i3 : IntKind.i64.wrap ((i : Int) + 1) = (i : Int) + 1 := by rw [IntKind.wrap_i64]; omega
          obtain ⟨x, hx⟩ : ∃ x, ks[i]? = some x := ⟨_, List.getElem?_eq_getElem hlt⟩
          have hxb2 := Hbd.out i x hx
          have htb2 := Htb.out
          have hzx := zK_at (t := t) hx
          obtain ⟨x1, x2, x3⟩ := hZ.cell hzx
          have hm1 : x.p * t ≤ 1000 * t := Int.mul_le_mul_of_nonneg_right (by omega) (by omega)
          have hm2 : 0 ≤ x.p * t := Int.mul_nonneg (by omega) (by omega)
          have i4 : IntKind.i64.wrap (x.p * t) = x.p * t := by rw [IntKind.wrap_i64]; omega
          have hZ2 := hZ.set hzx (x.p * t)
          rw [zK_step hx] at hZ2
          have HZ2 := Lib.hid hZ2
          clear hZ hZ2 hzx hx hxb2 htb2 hm1 hm2
          go_wp2
          refine hK _ _ (m - 1) (by omega) ⟨rfl, i + 1, by omega, HZ2.out, ?_⟩
          repeat (first | exact fits_nil | refine fits_none ?_ | refine fits_some ?_)
        · obtain rfl : i = ks.length := by omega
          rw [zK_all, Hkz.out] at hZ
          have HZ := Lib.hid hZ
          have HK8 := Lib.hid (HK7.out.later hZ.bel)
          have HC8 := Lib.hid (HC7.out.later hZ.bel)
          clear hZ hK HK7 HC7
          have i1 : ¬ ((ks.length : Nat) : Int) < (ks.length : Int) := by omega
          obtain ⟨c0, c1, c2⟩ := HK8.out.cells
          cases hfz : fineB (n : Int) fn fs kz with
          | false =>
            have hf3 := hfi.out kz (some ⟨gz, 0, none⟩) cz W HK8.out.fsl (by rw [Hzl.out]; exact HZ.out.sl)
            rw [hfz, Hzl.out] at hf3
            have Hf3 := Lib.hid hf3
            clear hf3 hfz HwZ
            go_wp2_with fail
            refine Hf3.out.mono ?_
            rintro e w9 ⟨rfl, hb9⟩
            have HK9 := Lib.hid (HK8.out.later hb9)
            clear hb9
            go_wp2_with fail
            refine (works_any _).mono ?_
            rintro e wA ⟨rfl, hbA⟩
            have HB := Lib.hid (HK9.out.later hbA).bel
            clear hbA
            go_wp2
            go_ret
            exact ⟨rfl, HB.out⟩
          | true =>
            have hf3 := hfi.out kz (some ⟨gz, 0, none⟩) cz W HK8.out.fsl (by rw [Hzl.out]; exact HZ.out.sl)
            rw [hfz, Hzl.out] at hf3
            obtain ⟨heZ, g1, g2, g3⟩ := HwZ.out hfz
            have HeZ := Lib.hid heZ
            have Hg1 := Lib.hid g1
            have Hg2 := Lib.hid g2
            have Hg3 := Lib.hid g3
            have Hf3 := Lib.hid hf3
            have g4 : (tv == tv) = true := by simp
            have g5 : (m0 == m0) = true := by simp
            clear hf3 hfz HwZ heZ g1 g2 g3
            go_wp2_with fail
            refine Hf3.out.mono ?_
            rintro e w9 ⟨rfl, hb9⟩
            have HK9 := Lib.hid (HK8.out.later hb9)
            have HC9 := Lib.hid (HC8.out.later hb9)
            have HZ9 := Lib.hid (HZ.out.later hb9)
            clear hb9 HK8 HC8 HZ c0 c1 c2 i1
            obtain ⟨c0, c1, c2⟩ := HK9.out.cells
            go_wp2_with fail
            have hbf := best_fine n FA fn fc fs (some ⟨gz, 0, none⟩) cz kz _ HK9.out.fsl (by rw [Hzl.out]; exact HZ9.out.sl) HeZ.out
            rw [Hzl.out, Hg1.out, Hg2.out] at hbf
            refine hbf.mono ?_
            clear hbf
            rintro e wA ⟨GA, nA, dA, rfl, hbA, hSA⟩
            have HKA := Lib.hid (HK9.out.later hbA)
            have HCA := Lib.hid (HC9.out.later hbA)
            have HZA := Lib.hid (HZ9.out.later hbA)
            have HSA := Lib.hid hSA
            clear hbA HK9 HC9 HZ9 hSA c0 c1 c2
            obtain ⟨c0, c1, c2⟩ := HKA.out.cells
            go_wp2_with fail
            have hbf := count_fine n FA fn fc fs (some ⟨gz, 0, none⟩) cz kz _ HKA.out.fsl (by rw [Hzl.out]; exact HZA.out.sl) HeZ.out
            rw [Hzl.out, Hg3.out] at hbf
            refine hbf.mono ?_
            clear hbf
            rintro e wB ⟨rfl, hbB⟩
            have HKB := Lib.hid (HKA.out.later hbB)
            have HCB := Lib.hid (HCA.out.later hbB)
            have HSB := Lib.hid (HSA.out.later hbB)
            clear hbB HKA HCA HZA HSA c0 c1 c2
            go_wp2_with fail
            refine (sheetsEq_any G2 n2 d2 cc GA nA dA cc _ HCB.out HSB.out).mono ?_
            rintro e wC ⟨rfl, hbC⟩
            rw [decide_eq_true (rfl : cc = cc)]
            have HKC := Lib.hid (HKB.out.later hbC)
            clear hbC HKB HCB HSB
            go_wp2_with fail
            refine (works_any _).mono ?_
            rintro e wD ⟨rfl, hbD⟩
            have HB := Lib.hid (HKC.out.later hbD).bel
            clear hbD
            go_wp2
            go_ret
            exact ⟨rfl, HB.out⟩
    | true =>
      have hf2 := Lib.hid (fun W h2 h3 => by have := hfi.out kx (some ⟨g, 0, none⟩) cap W h2 h3; rw [hfx] at this; exact this)
      obtain ⟨heX, hwx⟩ := HwX.out hfx
      have b1 : decide (vx < v0) = false := by simp; omega
      have HeX := Lib.hid heX
      clear hfx HwX heX hwx
      go_wp2_with fail
      refine (hf2.out _ HK4.out.fsl HSX.out).mono ?_
      rintro e w5 ⟨rfl, hb5⟩
      have HK5 := Lib.hid (HK4.out.later hb5)
      have HC5 := Lib.hid (HC4.out.later hb5)
      have HX5 := Lib.hid (HSX.out.later hb5)
      clear hb5 HK4 HC4 HSX c0 c1 c2 hf2
      obtain ⟨c0, c1, c2⟩ := HK5.out.cells
      go_wp2_with fail
      refine (best_fine n FA fn fc fs (some ⟨g, 0, none⟩) cap kx _ HK5.out.fsl HX5.out HeX.out).mono ?_
      rintro e wY ⟨G6, n6, d6, rfl, hb6, _⟩
      rw [Hvx.out]
      have HKy := Lib.hid (HK5.out.later hb6)
      have HCy := Lib.hid (HC5.out.later hb6)
      clear hb6 HK5 HC5 HX5 c0 c1 c2
      obtain ⟨c0, c1, c2⟩ := HKy.out.cells
      have HEy := Lib.hid (own_empty (W := wY.alloc (.cells #[] 67)) (base := wY.heap.size) (g := wY.heap.size) (size := 3) (Nat.le_refl _) (heap_alloc_new wY (.cells #[] 67)))
      have HNy := Lib.hid (kinds_news (HKy.out.ksl.later (balloc (brefl wY) (.cells #[] 67))) (by omega))
      have Hfin := Lib.hid (fun v' W3 h1 h2 => YW.made (Wb := wY) (W3 := W3) (ks := ks) (v' := v') hk1 h1 h2)
      have hxjp : -10 ≤ xj.p + wm ∧ xj.p + wm ≤ 10000 := by have := Hxb.out; omega
      have b2 : IntKind.i64.wrap (xj.p + wm) = xj.p + wm := by rw [IntKind.wrap_i64]; omega
      have b3 : (j : Int) < (ks.length : Int) := by omega
      have b4 : (0 : Int) ≤ (j : Int) := by omega
      have hmn : (xj.p + wm < 1000 ∧ xj.p + wm = pn) ∨ (¬ xj.p + wm < 1000 ∧ 1000 = pn) := by
        have := Hpn.out
        split at this
        · left; exact ⟨by assumption, this⟩
        · right; exact ⟨by assumption, this⟩
      clear Hpn
      rcases hmn with ⟨hm1, rfl⟩ | ⟨hm1, rfl⟩
      all_goals
        go_wp2_with (at_builtin; refine wpList_append_own _ rfl _ _ 25 rfl wY.heap.size 67 i0 (.agg #[.int .i64 0, .int .i64 0, .int .i64 0]) 3 24 und_kinds hi0 hz0 hz1 hz2 rfl (by decide) (.slice (some ⟨wY.heap.size, 0, none⟩) 0 0) 0 [] rfl HEy.out ⟨kb, ko, none⟩ ks.length kc (ks.flatMap encK) rfl (flatK_len ks) HNy.out (flatK_one ks) (by simp only [maxLen]; omega) (by omega) (by simp) ?_; intro v' W3 hown' hgr _; obtain ⟨gy, cy, rfl, hY⟩ := Hfin.out v' W3 hown' hgr; obtain ⟨x1, x2, x3⟩ := hY.cell Hxj.out; have hgne : gy ≠ w.heap.size := (by have := hY.base; have := HKy.out.b0.lt; omega); obtain ⟨k0, k1, k2⟩ := (HKy.out.later hY.bel).cells; have HY := Lib.hid hY; clear hY hown' hgr)
        clear x1 x2 x3 k0 k1 k2 c0 c1 c2 hm1 b2 b3 b4
        have hcall : ∀ p, ks.set j ⟨xj.w, p, xj.m⟩ = ky → YW wY (W3.setCell ⟨gy, j * 3 + 1, none⟩ (.int .i64 p)) gy ks.length cy ky := fun p hp => by
          have := HY.out.set Hxj.out p
          rw [hp] at this
          exact this
        have hYs := hcall _ Hky.out
        clear hcall
        have HYs := Lib.hid hYs
        have HK6 := Lib.hid (HKy.out.later hYs.bel)
        have HC6 := Lib.hid (HCy.out.later hYs.bel)
        clear hYs
        have hbf := best_fine n FA fn fc fs (some ⟨gy, 0, none⟩) cy ky _ HK6.out.fsl (by rw [Hyl.out]; exact HYs.out.sl) HeY.out
        rw [Hyl.out] at hbf
        refine hbf.mono ?_
        clear hbf
        rintro e w7 ⟨G7, n7, d7, rfl, hb7, _⟩
        rw [Hvy.out]
        have HK7 := Lib.hid (HK6.out.later hb7)
        have HC7 := Lib.hid (HC6.out.later hb7)
        clear hb7 HK6 HC6 HYs HKy HCy HEy HNy Hfin HY hgne
        have HEz := Lib.hid (own_empty (W := w7.alloc (.cells #[] 67)) (base := w7.heap.size) (g := w7.heap.size) (size := 3) (Nat.le_refl _) (heap_alloc_new w7 (.cells #[] 67)))
        have HNz := Lib.hid (kinds_news (HK7.out.ksl.later (balloc (brefl w7) (.cells #[] 67))) (by omega))
        have Hfz := Lib.hid (fun v' W3 h1 h2 => YW.made (Wb := w7) (W3 := W3) (ks := ks) (v' := v') hk1 h1 h2)
        go_wp2_with (at_builtin; refine wpList_append_own _ rfl _ _ 25 rfl w7.heap.size 67 i0 (.agg #[.int .i64 0, .int .i64 0, .int .i64 0]) 3 24 und_kinds hi0 hz0 hz1 hz2 rfl (by decide) (.slice (some ⟨w7.heap.size, 0, none⟩) 0 0) 0 [] rfl HEz.out ⟨kb, ko, none⟩ ks.length kc (ks.flatMap encK) rfl (flatK_len ks) HNz.out (flatK_one ks) (by simp only [maxLen]; omega) (by omega) (by simp) ?_; intro v' W4 hown' hgr _; obtain ⟨gz, cz, rfl, hZ⟩ := Hfz.out v' W4 hown' hgr; have HZ := Lib.hid hZ; clear hZ hown' hgr)
        clear HEz HNz Hfz
        refine loop_n (fun m b W => b.defers = [] ∧ ∃ i : Nat, i + m = ks.length ∧ YW w7 W gz ks.length cz (zK t ks i) ∧ Fits (none :: none :: none :: none :: none :: some (.pointer (some ⟨w.heap.size, 0, none⟩)) :: none :: none :: none :: none :: none :: some (.int .i64 v0) :: some (.slice G2 n2 d2) :: none :: some (.int .i64 m0) :: none :: none :: none :: none :: none :: none :: none :: none :: none :: none :: some (.int .i64 t) :: some (.slice (some ⟨gz, 0, none⟩) ks.length cz) :: some (.int .i64 (i : Nat)) :: none :: none :: none :: none :: none :: none :: none :: none :: none :: none :: none :: none :: none :: none :: none :: none :: none :: none :: none :: none :: none :: none :: none :: none :: none :: none :: none :: none :: none :: none :: none :: none :: none :: none :: none :: none :: none :: none :: none :: none :: none :: none :: none :: none :: none :: none :: none :: none :: none :: none :: none :: none :: none :: none :: none :: none :: none :: none :: none :: none :: none :: none :: none :: none :: none :: none :: none :: none :: none :: none :: none :: none :: none :: none :: none :: none :: none :: none :: none :: none :: none :: none :: none :: none :: none :: none :: none :: none :: none :: none :: none :: none :: none :: none :: none :: none :: none :: none :: none :: none :: none :: none :: none :: none :: none :: none :: none :: none :: none :: none :: none :: none :: none :: none :: none :: none :: none :: none :: none :: none :: none :: none :: none :: none :: none :: none :: none :: none :: none :: none :: none :: none :: none :: none :: none :: none :: none :: none :: none :: none :: none :: none :: none :: none :: none :: none :: none :: none :: none :: none :: []) b.tmps.toList) ks.length ?_ ?_
        · refine ⟨rfl, 0, by omega, by rw [zK_zero]; exact HZ.out, ?_⟩
          repeat (first | exact fits_nil | refine fits_none ?_ | refine fits_some ?_)
        clear HZ
        intro m b W hI K hK
        obtain ⟨hds, i, him, hZ, hfit⟩ := hI
        obtain ⟨gf, hg⟩ := fits_act hfit
        rw [hds] at hg
        subst hg
        clear hfit hds
        simp only [fillP, Nat.reduceAdd]
        by_cases hlt : i < ks.length
        · have i1 : (i : Int) < (ks.length : Int) := by omega
          have i2 : (0 : Int) ≤ (i : Int) := by omega
          have i3 : IntKind.i64.wrap ((i : Int) + 1) = (i : Int) + 1 := by rw [IntKind.wrap_i64]; omega
          obtain ⟨x, hx⟩ : ∃ x, ks[i]? = some x := ⟨_, List.getElem?_eq_getElem hlt⟩
          have hxb2 := Hbd.out i x hx
          have htb2 := Htb.out
          have hzx := zK_at (t := t) hx
          obtain ⟨x1, x2, x3⟩ := hZ.cell hzx
          have hm1 : x.p * t ≤ 1000 * t := Int.mul_le_mul_of_nonneg_right (by omega) (by omega)
          have hm2 : 0 ≤ x.p * t := Int.mul_nonneg (by omega) (by omega)
          have i4 : IntKind.i64.wrap (x.p * t) = x.p * t := by rw [IntKind.wrap_i64]; omega
          have hZ2 := hZ.set hzx (x.p * t)
          rw [zK_step hx] at hZ2
          have HZ2 := Lib.hid hZ2
          clear hZ hZ2 hzx hx hxb2 htb2 hm1 hm2
          go_wp2
          refine hK _ _ (m - 1) (by omega) ⟨rfl, i + 1, by omega, HZ2.out, ?_⟩
          repeat (first | exact fits_nil | refine fits_none ?_ | refine fits_some ?_)
        · obtain rfl : i = ks.length := by omega
          rw [zK_all, Hkz.out] at hZ
          have HZ := Lib.hid hZ
          have HK8 := Lib.hid (HK7.out.later hZ.bel)
          have HC8 := Lib.hid (HC7.out.later hZ.bel)
          clear hZ hK HK7 HC7
          have i1 : ¬ ((ks.length : Nat) : Int) < (ks.length : Int) := by omega
          obtain ⟨c0, c1, c2⟩ := HK8.out.cells
          cases hfz : fineB (n : Int) fn fs kz with
          | false =>
            have hf3 := hfi.out kz (some ⟨gz, 0, none⟩) cz W HK8.out.fsl (by rw [Hzl.out]; exact HZ.out.sl)
            rw [hfz, Hzl.out] at hf3
            have Hf3 := Lib.hid hf3
            clear hf3 hfz HwZ
            go_wp2_with fail
            refine Hf3.out.mono ?_
            rintro e w9 ⟨rfl, hb9⟩
            have HK9 := Lib.hid (HK8.out.later hb9)
            clear hb9
            go_wp2_with fail
            refine (works_any _).mono ?_
            rintro e wA ⟨rfl, hbA⟩
            have HB := Lib.hid (HK9.out.later hbA).bel
            clear hbA
            go_wp2
            go_ret
            exact ⟨rfl, HB.out⟩
          | true =>
            have hf3 := hfi.out kz (some ⟨gz, 0, none⟩) cz W HK8.out.fsl (by rw [Hzl.out]; exact HZ.out.sl)
            rw [hfz, Hzl.out] at hf3
            obtain ⟨heZ, g1, g2, g3⟩ := HwZ.out hfz
            have HeZ := Lib.hid heZ
            have Hg1 := Lib.hid g1
            have Hg2 := Lib.hid g2
            have Hg3 := Lib.hid g3
            have Hf3 := Lib.hid hf3
            have g4 : (tv == tv) = true := by simp
            have g5 : (m0 == m0) = true := by simp
            clear hf3 hfz HwZ heZ g1 g2 g3
            go_wp2_with fail
            refine Hf3.out.mono ?_
            rintro e w9 ⟨rfl, hb9⟩
            have HK9 := Lib.hid (HK8.out.later hb9)
            have HC9 := Lib.hid (HC8.out.later hb9)
            have HZ9 := Lib.hid (HZ.out.later hb9)
            clear hb9 HK8 HC8 HZ c0 c1 c2 i1
            obtain ⟨c0, c1, c2⟩ := HK9.out.cells
            go_wp2_with fail
            have hbf := best_fine n FA fn fc fs (some ⟨gz, 0, none⟩) cz kz _ HK9.out.fsl (by rw [Hzl.out]; exact HZ9.out.sl) HeZ.out
            rw [Hzl.out, Hg1.out, Hg2.out] at hbf
            refine hbf.mono ?_
            clear hbf
            rintro e wA ⟨GA, nA, dA, rfl, hbA, hSA⟩
            have HKA := Lib.hid (HK9.out.later hbA)
            have HCA := Lib.hid (HC9.out.later hbA)
            have HZA := Lib.hid (HZ9.out.later hbA)
            have HSA := Lib.hid hSA
            clear hbA HK9 HC9 HZ9 hSA c0 c1 c2
            obtain ⟨c0, c1, c2⟩ := HKA.out.cells
            go_wp2_with fail
            have hbf := count_fine n FA fn fc fs (some ⟨gz, 0, none⟩) cz kz _ HKA.out.fsl (by rw [Hzl.out]; exact HZA.out.sl) HeZ.out
            rw [Hzl.out, Hg3.out] at hbf
            refine hbf.mono ?_
            clear hbf
            rintro e wB ⟨rfl, hbB⟩
            have HKB := Lib.hid (HKA.out.later hbB)
            have HCB := Lib.hid (HCA.out.later hbB)
            have HSB := Lib.hid (HSA.out.later hbB)
            clear hbB HKA HCA HZA HSA c0 c1 c2
            go_wp2_with fail
            refine (sheetsEq_any G2 n2 d2 cc GA nA dA cc _ HCB.out HSB.out).mono ?_
            rintro e wC ⟨rfl, hbC⟩
            rw [decide_eq_true (rfl : cc = cc)]
            have HKC := Lib.hid (HKB.out.later hbC)
            clear hbC HKB HCB HSB
            go_wp2_with fail
            refine (works_any _).mono ?_
            rintro e wD ⟨rfl, hbD⟩
            have HB := Lib.hid (HKC.out.later hbD).bel
            clear hbD
            go_wp2
            go_ret
            exact ⟨rfl, HB.out⟩
end Go.Proofs.Ytjmphmnimnbgkaa
