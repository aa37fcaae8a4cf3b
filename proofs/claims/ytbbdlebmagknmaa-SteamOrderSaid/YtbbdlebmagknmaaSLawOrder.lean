/- The walk of SteamOrder. -/
import Derived.Test.YtbbdlebmagknmaaSOrd
namespace Go.Proofs.Ytbbdlebmagknmaa
open Go.RowKit Go.Shelf

theorem chosen_E {L : Int} {rs : List Rg} (he : yardE L rs = 0) (bs : List Nat) : hoursE L rs (chosenP rs bs) = 0 := by
  have hr := (yard_ok he).2
  unfold hoursE
  have h1 : (chosenP rs bs).length = rs.length := chosen_len _ _ _
  rw [if_pos he, if_pos h1, if_neg]
  rw [chosen_ok hr bs]
  simp
/-- What is known at each place. -/
structure AtI (m : Nat) (xs es bs zs : List Int) (kx v : Int) : Prop where
  lx : xs.length = m
  le : es.length = m
  lb : bs.length = m
  lz : kx = v → zs.length = m
  bx : ∀ (i : Nat) (x a b : Int), xs[i]? = some x → es[i]? = some a → bs[i]? = some b → ¬ (x < a) ∧ ¬ (b < x)
  bz : kx = v → ∀ (i : Nat) (x a b : Int), zs[i]? = some x → es[i]? = some a → bs[i]? = some b → ¬ (x < a) ∧ ¬ (b < x)
  sa : ∀ (i j : Nat) (x y : Int), i = j + 1 → es[i]? = some x → es[j]? = some y → ¬ (x < y)
  sb : ∀ (i j : Nat) (x y : Int), i = j + 1 → bs[i]? = some x → bs[j]? = some y → ¬ (x < y)
theorem srt_at {l : List Int} (h : l.Pairwise (· ≤ ·)) {i j : Nat} {x y : Int} (hij : i = j + 1) (hx : l[i]? = some x) (hy : l[j]? = some y) : ¬ (x < y) := by
  obtain ⟨h1, h2⟩ := List.getElem?_eq_some_iff.1 hx
  obtain ⟨h3, h4⟩ := List.getElem?_eq_some_iff.1 hy
  have := List.pairwise_iff_getElem.1 h j i h3 h1 (by omega)
  omega
/-- While the lists are compared. -/
structure OL (w W : World) (GA GB GX GZ : Option Addr) (m da db dx dz lz : Nat) (es bs xs zs : List Int) : Prop where
  bel : Below w.heap.size w W
  sa : Sl 1 encI W W.heap.size GA m da es
  sb : Sl 1 encI W W.heap.size GB m db bs
  sx : Sl 1 encI W W.heap.size GX m dx xs
  sz : Sl 1 encI W W.heap.size GZ lz dz zs
theorem OL.later {w W W' : World} {GA GB GX GZ : Option Addr} {m da db dx dz lz : Nat} {es bs xs zs : List Int} (h : OL w W GA GB GX GZ m da db dx dz lz es bs xs zs) (hb : Below W.heap.size W W') : OL w W' GA GB GX GZ m da db dx dz lz es bs xs zs := ⟨Below.later h.bel hb, h.sa.later hb, h.sb.later hb, h.sx.later hb, h.sz.later hb⟩
set_option maxRecDepth 100000 in
set_option maxHeartbeats 8000000 in
theorem order_law (L : Int) (A : Option Addr) (n c : Nat) (rs : List Rg) (BA : Option Addr) (bn bc : Nat) (bys : List Nat) (w : World) (hs : Sl 2 encR w w.heap.size A n c rs) (hbs : Sl 1 encB w w.heap.size BA bn bc bys) (hbd : ∀ x ∈ bys, x < 256) :
    Calls Try.prog 8 #[.agg #[.int .i64 L, .slice A n c], .slice BA bn bc] w fun e w' => e = .returned (.bool true) ∧ Below w.heap.size w w' := by
  have hB := balloc (brefl w) (.cells #[.int .i64 L, .slice A n c] 24)
  have HK0 := Lib.hid (show LW w (w.alloc (.cells #[.int .i64 L, .slice A n c] 24)) w.heap.size L A n c rs from ⟨hB, Blk.new w _ _, hs.later hB⟩)
  clear hB
  obtain ⟨c0, c1, c2⟩ := HK0.out.cells
  have HB0 := Lib.hid (hbs.later (balloc (brefl w) (.cells #[.int .i64 L, .slice A n c] 24)))
  have Hbd := Lib.hid hbd
  clear hbs hbd
  by_cases hy : yardE L rs = 0
  case neg =>
    have Hf := Lib.hid (fun W (h : Sl 2 encR W W.heap.size A n c rs) => fine_bad L A n c rs W h hy)
    clear hs hy
    go_enter Try.func8, Try.ntmps8
    go_wp2_with fail
    refine (Hf.out _ HK0.out.sl).mono ?_
    rintro e w1 ⟨rfl, hb⟩
    have HK1 := Lib.hid (HK0.out.later hb)
    have HB1 := Lib.hid (HB0.out.later hb)
    clear hb HK0 HB0 c0 c1 c2
    obtain ⟨c0, c1, c2⟩ := HK1.out.cells
    go_wp2_with fail
    refine (works_any _).mono ?_
    rintro e we ⟨rfl, hbe⟩
    have HBE := Lib.hid (Below.later HK1.out.bel hbe)
    clear hbe
    go_wp2
    go_ret
    exact ⟨rfl, HBE.out⟩
  case pos =>
  have Hf := Lib.hid (fun W (h : Sl 2 encR W W.heap.size A n c rs) => fine_ok L A n c rs W h hy)
  obtain ⟨Ln, rfl, hLn, hr⟩ := yard_nat hy
  have hnl := hs.len
  have hn10 : n ≤ 10 := by rw [← hnl]; exact hr.1
  by_cases hg1 : (20 : Int) < (bn : Int)
  · clear hs hy hr
    go_enter Try.func8, Try.ntmps8
    go_wp2_with fail
    refine (Hf.out _ HK0.out.sl).mono ?_
    rintro e w2 ⟨rfl, hb⟩
    have HK1 := Lib.hid (HK0.out.later hb)
    have HB1 := Lib.hid (HB0.out.later hb)
    clear hb HK0 HB0 c0 c1 c2
    obtain ⟨c0, c1, c2⟩ := HK1.out.cells
    go_wp2_with fail
    refine (works_any _).mono ?_
    rintro e we ⟨rfl, hbe⟩
    have HBE := Lib.hid (Below.later HK1.out.bel hbe)
    clear hbe
    go_wp2
    go_ret
    exact ⟨rfl, HBE.out⟩
  have Hy := Lib.hid hy
  have Hr := Lib.hid hr
  have hbn60 : bn ≤ 60 := by omega
  have hce := chosen_E hy bys
  obtain ⟨own, hown⟩ : ∃ own, chosenP rs bys = own := ⟨_, rfl⟩
  have holen : own.length = n := by rw [← hown, ← hnl]; exact chosen_len _ _ _
  have Hown := Lib.hid hown
  rw [hown] at hce
  obtain ⟨kx, hkx⟩ : ∃ x, hoursV (Ln : Int) rs own = x := ⟨_, rfl⟩
  obtain ⟨v, hv⟩ : ∃ v, LA rs Ln 101 = v := ⟨_, rfl⟩
  have hee := early_is hy
  have hle := late_is hy
  have hn1 := late_len hr hLn.1
  have hn2 := early_len hr hLn.1
  have hbdd := la_bound hr hLn 101
  rw [hv] at hn1 hn2 hbdd
  obtain ⟨es, hes⟩ : ∃ es, earlyOf rs Ln = es := ⟨_, rfl⟩
  obtain ⟨bs, hbs⟩ : ∃ bs, lateOf rs Ln = bs := ⟨_, rfl⟩
  rw [hes] at hee hn2
  rw [hbs] at hle hn1
  obtain ⟨m, hm⟩ : ∃ m, bs.length = m := ⟨_, rfl⟩
  have hm2 : es.length = m := by omega
  have hmv : (m : Int) = v := by omega
  have hm60 : m ≤ 200000 := by omega
  have HE := Lib.hid hee
  have HL := Lib.hid hle
  have Hm := Lib.hid hm
  have Hm2 := Lib.hid hm2
  have Hkx := Lib.hid hkx
  have Hce := Lib.hid hce
  have Hv := Lib.hid hv
  have HIf := Lib.hid (show ∀ hh, hoursE (Ln : Int) rs hh = 0 → hoursV (Ln : Int) rs hh = v → AtI m (orderOf Ln hh) es bs (orderOf Ln own) kx v from fun hh h1 h2 => by
    obtain ⟨a1, a2, a3⟩ := hours_of h1
    obtain ⟨b1, b2, b3⟩ := hours_of hce
    have a4 : loadsP (Ln : Int) hh = LA rs Ln 101 := by rw [← a3, h2, hv]
    have hlx := order_len (rs := rs) hLn.1 a4
    refine ⟨by omega, hm2, hm, fun hk => ?_, fun i x a b g1 g2 g3 => ?_, fun hk i x a b g1 g2 g3 => ?_, fun i j x y hij g1 g2 => ?_, fun i j x y hij g1 g2 => ?_⟩
    · have hlz := order_len (rs := rs) (hs := own) hLn.1 (by rw [← b3, hkx, hk, hv])
      omega
    · rw [← hes] at g2
      rw [← hbs] at g3
      have h := order_between hr hLn.1 a1 a2 a4 g1 g2 g3
      omega
    · rw [← hes] at g2
      rw [← hbs] at g3
      have h := order_between hr hLn.1 b1 b2 (by rw [← b3, hkx, hk, hv]) g1 g2 g3
      omega
    · rw [← hes] at g1 g2
      exact srt_at (early_sorted hr hLn.1) hij g1 g2
    · rw [← hbs] at g1 g2
      exact srt_at (late_sorted hr hLn.1) hij g1 g2)
  clear hs hy hr hce hown hkx hv hee hle hn1 hn2 hbdd hes hbs hm hm2 hnl
  go_enter Try.func8, Try.ntmps8
  go_wp2_with fail
  refine (Hf.out _ HK0.out.sl).mono ?_
  rintro e w3 ⟨rfl, hb⟩
  have HK1 := Lib.hid (HK0.out.later hb)
  have HB1 := Lib.hid (HB0.out.later hb)
  clear hb HK0 HB0 c0 c1 c2
  obtain ⟨c0, c1, c2⟩ := HK1.out.cells
  go_wp2_with fail
  refine (fewestL_any Ln A n c rs _ HK1.out.sl Hy.out).mono ?_
  rintro e w4 ⟨g1, hh, rfl, hb, hhs, he1, hv1⟩
  have HK2 := Lib.hid (HK1.out.later hb)
  have HB2 := Lib.hid (HB1.out.later hb)
  clear hb HK1 HB1 c0 c1 c2
  obtain ⟨c0, c1, c2⟩ := HK2.out.cells
  rw [Hv.out]
  rw [Hv.out] at hv1
  have HI := Lib.hid (HIf.out hh he1 hv1)
  have HH2 := Lib.hid hhs
  clear he1 hv1 hhs
  go_wp2_with fail
  refine (early_any (Ln : Int) A n c rs _ HK2.out.sl).mono ?_
  rintro e w5 ⟨v3, rfl, hb, ho⟩
  have HK3 := Lib.hid (HK2.out.later hb)
  have HB3 := Lib.hid (HB2.out.later hb)
  have HH3 := Lib.hid (HH2.out.later hb)
  clear hb HK2 HB2 HH2 c0 c1 c2
  obtain ⟨c0, c1, c2⟩ := HK3.out.cells
  rw [Hy.out]
  rw [HE.out, Hm2.out] at ho
  obtain ⟨GA, da, rfl, hsl⟩ := own_slI ho Hm2.out
  have HA3 := Lib.hid hsl
  clear ho hsl
  go_wp2_with fail
  refine (late_any (Ln : Int) A n c rs _ HK3.out.sl).mono ?_
  rintro e w6 ⟨v5, rfl, hb, ho, _⟩
  have HK4 := Lib.hid (HK3.out.later hb)
  have HB4 := Lib.hid (HB3.out.later hb)
  have HH4 := Lib.hid (HH3.out.later hb)
  have HA4 := Lib.hid (HA3.out.later hb)
  clear hb HK3 HB3 HH3 HA3 c0 c1 c2
  obtain ⟨c0, c1, c2⟩ := HK4.out.cells
  rw [Hy.out]
  rw [HL.out, Hm.out] at ho
  obtain ⟨GB, db, rfl, hsl⟩ := own_slI ho Hm.out
  have HL4 := Lib.hid hsl
  clear ho hsl
  go_wp2_with fail
  refine (chosen_any (Ln : Int) A n c rs BA bn bc bys _ HK4.out.sl HB4.out Hbd.out Hr.out hbn60).mono ?_
  rintro e w7 ⟨GO, dO, rfl, hb, hsl⟩
  have HK5 := Lib.hid (HK4.out.later hb)
  have HB5 := Lib.hid (HB4.out.later hb)
  have HH5 := Lib.hid (HH4.out.later hb)
  have HA5 := Lib.hid (HA4.out.later hb)
  have HL5 := Lib.hid (HL4.out.later hb)
  clear hb HK4 HB4 HH4 HA4 HL4 c0 c1 c2
  obtain ⟨c0, c1, c2⟩ := HK5.out.cells
  clear hmv
  rw [Hown.out] at hsl
  have HO5 := Lib.hid hsl
  clear hsl
  go_wp2_with fail
  refine (checkHours_any (Ln : Int) A n c rs GO n dO own _ HK5.out.sl HO5.out).mono ?_
  rintro e w8 ⟨rfl, hb⟩
  have HK6 := Lib.hid (HK5.out.later hb)
  have HH6 := Lib.hid (HH5.out.later hb)
  have HA6 := Lib.hid (HA5.out.later hb)
  have HL6 := Lib.hid (HL5.out.later hb)
  have HO6 := Lib.hid (HO5.out.later hb)
  clear hb HK5 HH5 HA5 HL5 HO5 c0 c1 c2
  obtain ⟨c0, c1, c2⟩ := HK6.out.cells
  rw [Hkx.out, Hce.out]
  go_wp2_with fail
  refine dag 8 (by kernel_rfl) (by kernel_rfl) (.is ?_ :: .is ?_ :: .like (IsInts (orderOf Ln hh).length (orderOf Ln hh)) :: .is ?_ :: .is ?_ :: .like (IsInts (orderOf Ln own).length (orderOf Ln own)) :: .like (IsInts (orderOf Ln hh).length (orderOf Ln hh)) :: .like (IsInts (orderOf Ln own).length (orderOf Ln own)) :: []) rfl ?st1 ?ob1
  case st1 => repeat (first | exact stab_nil | refine stab_is ?_ | refine stab_like IsInts.stab ?_)
  case ob1 =>
  intro env V hG
  obtain ⟨hc, hf⟩ := bcell hG
  have HG := Lib.hid hG
  iterate 2 (refine obls_is ?_ ?_; unfold doesAt; go_simp; (try go_bits); (first | (refine ⟨brefl _, ?_⟩; rfl) | rfl); intro K hK; go_simp; refine hK _ ?_; clear hK K)
  refine obls_like (fun _ => ?_) ?_
  · unfold doesAt
    go_simp
    refine (order_any Ln A n c _ _ _ hh V (HH6.out.later HG.out) hLn (by omega)).mono ?_
    rintro e w3 ⟨G, k, rfl, hb3, hsl⟩
    exact ⟨_, rfl, hb3, G, k, rfl, hsl⟩
  intro K hK
  go_simp
  refine hK _ ?_
  clear hK K
  iterate 2 (refine obls_is ?_ ?_; unfold doesAt; go_simp; (try go_bits); (first | (refine ⟨brefl _, ?_⟩; rfl) | rfl); intro K hK; go_simp; refine hK _ ?_; clear hK K)
  refine obls_like (fun _ => ?_) ?_
  · unfold doesAt
    go_simp
    refine (order_any Ln A n c _ _ _ own V (HO6.out.later HG.out) hLn (by omega)).mono ?_
    rintro e w3 ⟨G, k, rfl, hb3, hsl⟩
    exact ⟨_, rfl, hb3, G, k, rfl, hsl⟩
  intro K hK
  go_simp
  refine hK _ ?_
  clear hK K
  refine obls_like (fun hl => ?_) ?_
  · have h2 : IsInts (orderOf Ln hh).length (orderOf Ln hh) (env 2) V := hl ⟨2, .data⟩ (by simp) rfl
    unfold doesAt
    go_simp
    first
      | exact ⟨brefl V, h2⟩
      | exact brefl V
  intro K hK
  go_simp
  refine hK _ ?_
  clear hK K
  refine obls_like (fun hl => ?_) ?_
  · have h2 : IsInts (orderOf Ln own).length (orderOf Ln own) (env 5) V := hl ⟨5, .data⟩ (by simp) rfl
    unfold doesAt
    go_simp
    first
      | exact ⟨brefl V, h2⟩
      | exact brefl V
  intro K hK
  go_simp
  refine hK _ ?_
  clear hK K
  refine obls_nil (fun hok => ?_)
  obtain ⟨GX, dx, hex, hsx⟩ : IsInts (orderOf Ln hh).length (orderOf Ln hh) (env 6) V := hok 6 _ rfl
  obtain ⟨GZ, dz, hez, hsz⟩ : IsInts (orderOf Ln own).length (orderOf Ln own) (env 7) V := hok 7 _ rfl
  rw [hex, hez]
  obtain ⟨xs, hxs⟩ : ∃ xs, orderOf Ln hh = xs := ⟨_, rfl⟩
  obtain ⟨zs, hzs⟩ : ∃ zs, orderOf Ln own = zs := ⟨_, rfl⟩
  rw [hxs] at hsx
  rw [hzs] at hsz
  have hI2 := HI.out
  rw [hxs, hzs] at hI2
  rw [hxs, hzs]
  have hlx := hI2.lx
  rw [hlx] at hsx ⊢
  have HI2 := Lib.hid hI2
  obtain ⟨lz, hlz⟩ : ∃ lz, zs.length = lz := ⟨_, rfl⟩
  have Hlz := Lib.hid (show kx = v → lz = m from fun h => by rw [← hlz]; exact hI2.lz h)
  rw [hlz] at hsz ⊢
  have HT := Lib.hid (show OL w V GA GB GX GZ m da db dx dz lz es bs xs zs from ⟨Below.later HK6.out.bel hG, HA6.out.later hG, HL6.out.later hG, hsx, hsz⟩)
  clear hok hsx hsz hG hc hf HG hxs hzs hI2 hlx hlz HI HK6 HH6 HA6 HL6 HO6 c0 c1 c2
  have HI := HI2
  clear HI2
  go_wp2_with fail
  refine loop_n (fun q a W => a.defers = [] ∧ ∃ (i : Nat), i + q = m ∧ OL w W GA GB GX GZ m da db dx dz lz es bs xs zs ∧ Fits (none :: none :: none :: none :: none :: some (.int .i64 v) :: none :: none :: some (.slice GA m da) :: none :: some (.slice GB m db) :: none :: none :: some (.int .i64 kx) :: none :: some (.slice GX m dx) :: some (.slice GZ lz dz) :: some (.int .i64 (i : Nat)) :: none :: none :: none :: none :: none :: none :: none :: none :: none :: none :: none :: none :: none :: none :: none :: none :: none :: none :: none :: none :: none :: none :: none :: none :: none :: none :: none :: none :: none :: none :: none :: none :: none :: none :: none :: none :: none :: none :: none :: none :: none :: none :: none :: none :: none :: none :: none :: none :: none :: none :: none :: none :: none :: none :: none :: none :: none :: none :: none :: none :: none :: none :: none :: none :: none :: none :: none :: none :: none :: none :: none :: none :: none :: none :: none :: none :: none :: none :: none :: none :: none :: none :: none :: none :: none :: none :: none :: none :: none :: none :: none :: none :: none :: none :: none :: none :: none :: none :: none :: none :: none :: none :: none :: none :: none :: none :: none :: none :: none :: none :: none :: none :: none :: none :: none :: none :: none :: none :: none :: none :: none :: none :: none :: none :: none :: none :: none :: none :: none :: none :: none :: none :: none :: none :: none :: none :: none :: none :: none :: none :: none :: none :: none :: none :: none :: none :: []) a.tmps.toList) m ?_ ?_
  · refine ⟨rfl, 0, by omega, HT.out, ?_⟩
    repeat (first | exact fits_nil | refine fits_none ?_ | refine fits_some ?_)
  clear HT
  intro q a W hI K hK
  obtain ⟨hds, i, hiq, hT, hfit⟩ := hI
  obtain ⟨f', hf'⟩ := fits_act hfit
  rw [hds] at hf'
  subst hf'
  clear hfit hds
  simp only [fillP, Nat.reduceAdd]
  have HT := Lib.hid hT
  by_cases hlt : i < m
  · obtain ⟨ba, oa, a, rfl, hba, ha, a0⟩ := hT.sa.ltI hlt
    obtain ⟨bb, ob, b, rfl, hbb, hb, b0⟩ := hT.sb.ltI hlt
    obtain ⟨bx, ox, x, rfl, hbx, hx, x0⟩ := hT.sx.ltI hlt
    obtain ⟨x1, x2⟩ := HI.out.bx i x a b hx ha hb
    have i1 : (i : Int) < (m : Int) := by omega
    have i2 : (0 : Int) ≤ (i : Int) := by omega
    have i3 : IntKind.i64.wrap ((i : Int) + 1) = (i : Int) + 1 := by rw [IntKind.wrap_i64]; omega
    by_cases h0 : 0 < i
    · obtain ⟨j, hj⟩ : ∃ j, i = j + 1 := ⟨i - 1, by omega⟩
      obtain ⟨_, _, a', hA', _, ha', a0'⟩ := hT.sa.ltI (i := j) (by omega)
      cases hA'
      obtain ⟨_, _, b', hA', _, hb', b0'⟩ := hT.sb.ltI (i := j) (by omega)
      cases hA'
      have s1 := HI.out.sa i j a a' hj ha ha'
      have s2 := HI.out.sb i j b b' hj hb hb'
      have i4 : (0 : Int) < (i : Int) := by omega
      have i5 : IntKind.i64.wrap ((i : Int) - 1) = (j : Int) := by rw [IntKind.wrap_i64]; omega
      have i6 : (j : Int) < (m : Int) := by omega
      have i7 : (0 : Int) ≤ (j : Int) := by omega
      clear ha' hb' hj hT
      by_cases hkv : kx = v
      · obtain ⟨bz, oz, z, rfl, hbz, hz, z0⟩ := HT.out.sz.ltI (i := i) (by rw [Hlz.out hkv]; exact hlt)
        obtain ⟨z1, z2⟩ := HI.out.bz hkv i z a b hz ha hb
        have HL := Lib.hid (Hlz.out hkv)
        have hzl : (i : Int) < (lz : Int) := by rw [Hlz.out hkv]; exact i1
        subst hkv
        clear ha hb hx hz Hlz HL
        go_wp2_with fail
        refine dag 75 (by kernel_rfl) (by kernel_rfl) (.is ?_ :: .is ?_ :: .is ?_ :: .is ?_ :: .is ?_ :: .is ?_ :: .is ?_ :: .is ?_ :: .is ?_ :: .is ?_ :: .is ?_ :: .is ?_ :: .is ?_ :: .is ?_ :: .is ?_ :: .is ?_ :: .is ?_ :: .is ?_ :: .is ?_ :: .is ?_ :: .is ?_ :: .is ?_ :: .is ?_ :: .is ?_ :: .is ?_ :: .is ?_ :: .is ?_ :: .is ?_ :: .is ?_ :: .is ?_ :: .is ?_ :: .is ?_ :: .is ?_ :: .is ?_ :: .is ?_ :: .is ?_ :: .is ?_ :: .is ?_ :: .is ?_ :: .is ?_ :: .is ?_ :: .is ?_ :: .is ?_ :: .is ?_ :: .is ?_ :: .is ?_ :: .is ?_ :: .is ?_ :: .is ?_ :: .is ?_ :: .is ?_ :: .is ?_ :: .is ?_ :: .is ?_ :: .is ?_ :: .is ?_ :: .is ?_ :: .is ?_ :: .is ?_ :: .is ?_ :: .is ?_ :: .is ?_ :: .is ?_ :: .is ?_ :: .is ?_ :: .is ?_ :: .is ?_ :: .is ?_ :: .is ?_ :: .is ?_ :: .is ?_ :: .is ?_ :: .is ?_ :: .is ?_ :: .is ?_ :: []) rfl ?staa ?obaa
        case staa => simp [Spec.ok]
        case obaa =>
        intro env V hG
        obtain ⟨hc, hf⟩ := bcell hG
        repeat (refine obls_is ?_ ?_; unfold doesAt; go_simp; (try go_bits); (first | (refine ⟨brefl _, ?_⟩; rfl) | rfl); intro K hK; go_simp; refine hK _ ?_; clear hK K)
        refine obls_nil (fun _ => ?_)
        have HT2 := Lib.hid (HT.out.later hG)
        clear hc hf hG HT
        go_wp2
        refine hK _ _ (q - 1) (by omega) ⟨rfl, i + 1, by omega, HT2.out, ?_⟩
        repeat (first | exact fits_nil | refine fits_none ?_ | refine fits_some ?_)
      · have d1 : (kx == v) = false := by simpa using hkv
        have d2 : decide (kx = v) = false := by simpa using hkv
        clear hkv ha hb hx
        go_wp2_with fail
        refine dag 75 (by kernel_rfl) (by kernel_rfl) (.is ?_ :: .is ?_ :: .is ?_ :: .is ?_ :: .is ?_ :: .is ?_ :: .is ?_ :: .is ?_ :: .is ?_ :: .is ?_ :: .is ?_ :: .is ?_ :: .is ?_ :: .is ?_ :: .is ?_ :: .is ?_ :: .is ?_ :: .is ?_ :: .is ?_ :: .is ?_ :: .is ?_ :: .is ?_ :: .is ?_ :: .is ?_ :: .is ?_ :: .is ?_ :: .is ?_ :: .is ?_ :: .is ?_ :: .is ?_ :: .is ?_ :: .is ?_ :: .is ?_ :: .is ?_ :: .is ?_ :: .is ?_ :: .is ?_ :: .is ?_ :: .is ?_ :: .is ?_ :: .is ?_ :: .is ?_ :: .is ?_ :: .is ?_ :: .is ?_ :: .is ?_ :: .is ?_ :: .is ?_ :: .is ?_ :: .is ?_ :: .is ?_ :: .is ?_ :: .is ?_ :: .is ?_ :: .is ?_ :: .is ?_ :: .is ?_ :: .is ?_ :: .is ?_ :: .is ?_ :: .is ?_ :: .is ?_ :: .is ?_ :: .is ?_ :: .is ?_ :: .is ?_ :: .is ?_ :: .is ?_ :: .is ?_ :: .is ?_ :: .is ?_ :: .is ?_ :: .is ?_ :: .is ?_ :: .is ?_ :: []) rfl ?stab ?obab
        case stab => simp [Spec.ok]
        case obab =>
        intro env V hG
        obtain ⟨hc, hf⟩ := bcell hG
        repeat (refine obls_is ?_ ?_; unfold doesAt; go_simp; (try go_bits); (first | (refine ⟨brefl _, ?_⟩; rfl) | rfl); intro K hK; go_simp; refine hK _ ?_; clear hK K)
        refine obls_nil (fun _ => ?_)
        have HT2 := Lib.hid (HT.out.later hG)
        clear hc hf hG HT
        go_wp2
        refine hK _ _ (q - 1) (by omega) ⟨rfl, i + 1, by omega, HT2.out, ?_⟩
        repeat (first | exact fits_nil | refine fits_none ?_ | refine fits_some ?_)
    · have i4 : ¬ ((0 : Int) < (i : Int)) := by omega
      clear hT
      by_cases hkv : kx = v
      · obtain ⟨bz, oz, z, rfl, hbz, hz, z0⟩ := HT.out.sz.ltI (i := i) (by rw [Hlz.out hkv]; exact hlt)
        obtain ⟨z1, z2⟩ := HI.out.bz hkv i z a b hz ha hb
        have HL := Lib.hid (Hlz.out hkv)
        have hzl : (i : Int) < (lz : Int) := by rw [Hlz.out hkv]; exact i1
        subst hkv
        clear ha hb hx hz Hlz HL
        go_wp2_with fail
        refine dag 75 (by kernel_rfl) (by kernel_rfl) (.is ?_ :: .is ?_ :: .is ?_ :: .is ?_ :: .is ?_ :: .is ?_ :: .is ?_ :: .is ?_ :: .is ?_ :: .is ?_ :: .is ?_ :: .is ?_ :: .is ?_ :: .is ?_ :: .is ?_ :: .is ?_ :: .is ?_ :: .is ?_ :: .is ?_ :: .is ?_ :: .is ?_ :: .is ?_ :: .is ?_ :: .is ?_ :: .is ?_ :: .is ?_ :: .is ?_ :: .is ?_ :: .is ?_ :: .is ?_ :: .is ?_ :: .is ?_ :: .is ?_ :: .is ?_ :: .is ?_ :: .is ?_ :: .is ?_ :: .is ?_ :: .is ?_ :: .is ?_ :: .is ?_ :: .is ?_ :: .is ?_ :: .is ?_ :: .is ?_ :: .is ?_ :: .is ?_ :: .is ?_ :: .is ?_ :: .is ?_ :: .is ?_ :: .is ?_ :: .is ?_ :: .is ?_ :: .is ?_ :: .is ?_ :: .is ?_ :: .is ?_ :: .is ?_ :: .is ?_ :: .is ?_ :: .is ?_ :: .is ?_ :: .is ?_ :: .is ?_ :: .is ?_ :: .is ?_ :: .is ?_ :: .is ?_ :: .is ?_ :: .is ?_ :: .is ?_ :: .is ?_ :: .is ?_ :: .is ?_ :: []) rfl ?stba ?obba
        case stba => simp [Spec.ok]
        case obba =>
        intro env V hG
        obtain ⟨hc, hf⟩ := bcell hG
        repeat (refine obls_is ?_ ?_; unfold doesAt; go_simp; (try go_bits); (first | (refine ⟨brefl _, ?_⟩; rfl) | rfl); intro K hK; go_simp; refine hK _ ?_; clear hK K)
        refine obls_nil (fun _ => ?_)
        have HT2 := Lib.hid (HT.out.later hG)
        clear hc hf hG HT
        go_wp2
        refine hK _ _ (q - 1) (by omega) ⟨rfl, i + 1, by omega, HT2.out, ?_⟩
        repeat (first | exact fits_nil | refine fits_none ?_ | refine fits_some ?_)
      · have d1 : (kx == v) = false := by simpa using hkv
        have d2 : decide (kx = v) = false := by simpa using hkv
        clear hkv ha hb hx
        go_wp2_with fail
        refine dag 75 (by kernel_rfl) (by kernel_rfl) (.is ?_ :: .is ?_ :: .is ?_ :: .is ?_ :: .is ?_ :: .is ?_ :: .is ?_ :: .is ?_ :: .is ?_ :: .is ?_ :: .is ?_ :: .is ?_ :: .is ?_ :: .is ?_ :: .is ?_ :: .is ?_ :: .is ?_ :: .is ?_ :: .is ?_ :: .is ?_ :: .is ?_ :: .is ?_ :: .is ?_ :: .is ?_ :: .is ?_ :: .is ?_ :: .is ?_ :: .is ?_ :: .is ?_ :: .is ?_ :: .is ?_ :: .is ?_ :: .is ?_ :: .is ?_ :: .is ?_ :: .is ?_ :: .is ?_ :: .is ?_ :: .is ?_ :: .is ?_ :: .is ?_ :: .is ?_ :: .is ?_ :: .is ?_ :: .is ?_ :: .is ?_ :: .is ?_ :: .is ?_ :: .is ?_ :: .is ?_ :: .is ?_ :: .is ?_ :: .is ?_ :: .is ?_ :: .is ?_ :: .is ?_ :: .is ?_ :: .is ?_ :: .is ?_ :: .is ?_ :: .is ?_ :: .is ?_ :: .is ?_ :: .is ?_ :: .is ?_ :: .is ?_ :: .is ?_ :: .is ?_ :: .is ?_ :: .is ?_ :: .is ?_ :: .is ?_ :: .is ?_ :: .is ?_ :: .is ?_ :: []) rfl ?stbb ?obbb
        case stbb => simp [Spec.ok]
        case obbb =>
        intro env V hG
        obtain ⟨hc, hf⟩ := bcell hG
        repeat (refine obls_is ?_ ?_; unfold doesAt; go_simp; (try go_bits); (first | (refine ⟨brefl _, ?_⟩; rfl) | rfl); intro K hK; go_simp; refine hK _ ?_; clear hK K)
        refine obls_nil (fun _ => ?_)
        have HT2 := Lib.hid (HT.out.later hG)
        clear hc hf hG HT
        go_wp2
        refine hK _ _ (q - 1) (by omega) ⟨rfl, i + 1, by omega, HT2.out, ?_⟩
        repeat (first | exact fits_nil | refine fits_none ?_ | refine fits_some ?_)
  · obtain rfl : i = m := by omega
    have HBe := Lib.hid HT.out.bel
    clear hK hT HT
    go_wp2_with fail
    refine (works_any _).mono ?_
    rintro e we ⟨rfl, hbe⟩
    have HBE := Lib.hid (Below.later HBe.out hbe)
    clear hbe
    go_wp2
    go_ret
    exact ⟨rfl, HBE.out⟩
end Go.Proofs.Ytbbdlebmagknmaa
