/- The walk of ClipBehind. -/
import Derived.Test.YtjmphmnimnbgkaaFaults
import Derived.Deep.RegionHeld3
import Derived.Deep.AppendLies
import Derived.Deep.RegionLaw
namespace Go.Proofs.Ytjmphmnimnbgkaa
open Go.RowKit Go.Shelf

theorem mirF_step {n : Int} {fs : List Int} {i : Nat} {x : Int} (hx : fs[i]? = some x) : mirF n (fs.drop i) = mirF n (fs.drop (i + 1)) ++ [n - 1 - x] := by
  obtain ⟨h1, rfl⟩ := List.getElem?_eq_some_iff.1 hx
  rw [List.drop_eq_getElem_cons h1]
  unfold mirF
  rw [List.map_cons, List.reverse_cons]
theorem mirF_len (n : Int) (fs : List Int) : (mirF n fs).length = fs.length := by unfold mirF; simp
theorem mirL_step {n : Int} {ks : List Kd} {cuts : List Sh} {i : Nat} {s : Sh} (hs : cuts[i]? = some s) : mirL n ks (cuts.drop i) = mirL n ks (cuts.drop (i + 1)) ++ [⟨n - s.f - wOf ks s, s.k⟩] := by
  obtain ⟨h1, rfl⟩ := List.getElem?_eq_some_iff.1 hs
  rw [List.drop_eq_getElem_cons h1]
  unfold mirL
  rw [List.map_cons, List.reverse_cons]
theorem mirL_len (n : Int) (ks : List Kd) (l : List Sh) : (mirL n ks l).length = l.length := by unfold mirL; simp

/-- A list of sheets is being made, above all that was there. -/
structure BW (Wb W : World) (u : Value) (l : List Sh) : Prop where
  bel : Below Wb.heap.size Wb W
  own : W.ownsRow Wb.heap.size 56 2 u l.length (l.flatMap encS)
theorem BW.grown {Wb W W' : World} {u u' : Value} {l : List Sh} {x : Sh} (h : BW Wb W u l) (hg : W.grownBy W' u.ownBlock) (ho : W'.ownsRow Wb.heap.size 56 2 u' (l.length + 1) (l.flatMap encS ++ encS x)) : BW Wb W' u' (l ++ [x]) := by
  have hrow : ∀ k, u.ownBlock = some k → Wb.heap.size ≤ k := fun k hk => (h.own.lt k hk).1
  refine ⟨h.bel.trans ⟨hg.os, hg.tape, hg.output, hg.size, fun i hi => hg.block i (by have := h.bel.size; omega) (fun e => by have := hrow i e.symm; omega)⟩, ?_⟩
  simpa [List.flatMap_append] using ho
theorem BW.later {Wb W W' : World} {u : Value} {l : List Sh} (h : BW Wb W u l) (hb : Below W.heap.size W W') : BW Wb W' u l := ⟨Below.later h.bel hb, own_later h.own hb⟩

set_option maxRecDepth 100000 in
set_option maxHeartbeats 8000000 in
theorem behind_law (L : Int) (FA : Option Addr) (fn fc : Nat) (fs : List Int) (KA : Option Addr) (kc : Nat) (ks : List Kd) (wh : Int) (w : World) (hfs : Sl 1 encI w w.heap.size FA fn fc fs) (hks : Sl 3 encK w w.heap.size KA ks.length kc ks) (hwh : 0 ≤ wh ∧ wh ≤ 255) :
    Calls Try.prog 12 #[.agg #[.int .i64 L, .slice FA fn fc], .slice KA ks.length kc, .int .u8 wh] w fun e w' => e = .returned (.bool true) ∧ Below w.heap.size w w' := by
  have hB := balloc (brefl w) (.cells #[.int .i64 L, .slice FA fn fc] 24)
  have HK := Lib.hid (show LW w (w.alloc (.cells #[.int .i64 L, .slice FA fn fc] 24)) w.heap.size L FA fn fc fs KA kc ks from ⟨hB, Blk.new w _ _, hfs.later hB, hks.later hB⟩)
  have hfi := Lib.hid (fun W h1 h2 => fine_any L FA fn fc fs KA kc ks W h1 h2)
  have Hfs := Lib.hid hfs
  have Hks := Lib.hid hks
  have hfsl := hfs.len
  clear hB hfs hks
  cases h1 : fineB L fn fs ks with
  | false =>
    rw [h1] at hfi
    clear h1
    go_enter Try.func12, Try.ntmps12
    go_wp2_with fail
    refine (hfi.out _ HK.out.fsl HK.out.ksl).mono ?_
    rintro e w1 ⟨rfl, hb1⟩
    have HB := Lib.hid (Below.later HK.out.bel hb1)
    clear hb1
    go_wp2_with fail
    refine (works_any _).mono ?_
    rintro e w2 ⟨rfl, hb2⟩
    have HB2 := Lib.hid (Below.later HB.out hb2)
    clear hb2
    go_wp2
    go_ret
    exact ⟨rfl, HB2.out⟩
  | true =>
    rw [h1] at hfi
    obtain ⟨he, hfn, _⟩ := fine_rk h1
    obtain ⟨n, rfl, hl1, hl2, hko⟩ := valid_nat he
    obtain ⟨hri, hkn⟩ := rk_rib he
    have hvl := valid_len he
    have hfn2 : fn ≤ 24 := by omega
    have hmir := mir_can (L := n) (fs := fs) hko
    have hbest := hmir.best hko
    have hmany := hmir.many hko
    have hpar := fun p (hp : p ≤ n) => hmir.parted hko (p := p) hp
    have hrX : rkE (n : Int) (mirF n fs) ks = 0 := rk_of (mir_rib hri) hkn
    have hcg := first_good hko (behind_from (L := n) (F := Fst fs n) hko) n 0 (by omega) (Nat.zero_le _)
    have hcX := (hmir.good hko hcg.1).worth hko
    rw [mirL_val, hcg.2] at hcX
    have hcl := hcg.1.len hko
    have hce := hcg.1.each
    obtain ⟨p, hp⟩ : ∃ p : Nat, wh.tmod ((n : Int) + 1) = (p : Int) := ⟨(wh.tmod ((n : Int) + 1)).toNat, by
      rw [Int.tmod_eq_emod_of_nonneg (by omega)]
      have := Int.emod_nonneg wh (show (n : Int) + 1 ≠ 0 by omega)
      omega⟩
    have hpn : p ≤ n := by
      rw [Int.tmod_eq_emod_of_nonneg (by omega)] at hp
      have := Int.emod_lt_of_pos wh (show (0 : Int) < (n : Int) + 1 by omega)
      omega
    have hpar := hpar p hpn
    obtain ⟨⟨pr, pe⟩, hpr⟩ : ∃ r, partedP n (Fst fs n) ks (aheadAt n (Fst fs n) ks n) (behindAt n (Fst fs n) ks n) p = r := ⟨_, rfl⟩
    have hpe : pe = 0 := by
      have hin : inR 0 (n : Int) (p : Int) = true := (inR_iff _ _ _).2 ⟨by omega, by omega⟩
      have : (partedP n (Fst fs n) ks (aheadAt n (Fst fs n) ks n) (behindAt n (Fst fs n) ks n) p).2 = pe := by rw [hpr]
      unfold partedP at this
      rw [hin, if_neg (show ¬ (true = false) by simp)] at this
      rw [← this]
      split
      · rfl
      · split <;> rfl
    subst hpe
    rw [hpr] at hpar
    obtain ⟨v0, hv0⟩ : ∃ v0, behindAt n (Fst fs n) ks n 0 = v0 := ⟨_, rfl⟩
    obtain ⟨m0, hm0⟩ : ∃ m0, manyAt n (Fst fs n) ks (behindAt n (Fst fs n) ks n) n 0 = m0 := ⟨_, rfl⟩
    obtain ⟨cc, hcc⟩ : ∃ cc, firstAt n (Fst fs n) ks (behindAt n (Fst fs n) ks n) n 0 = cc := ⟨_, rfl⟩
    obtain ⟨mf, hmf⟩ : ∃ mf, mirF (n : Int) fs = mf := ⟨_, rfl⟩
    rw [hcc] at hcX hcl hce
    rw [hv0] at hbest hcX
    rw [hm0] at hmany
    rw [hmf] at hbest hmany hpar hrX hcX
    obtain ⟨n1, hn1⟩ : ∃ n1 : Int, (n : Int) + 1 = n1 := ⟨_, rfl⟩
    rw [hn1] at hp
    obtain ⟨np, hnp⟩ : ∃ np : Nat, n - p = np := ⟨_, rfl⟩
    rw [hnp] at hpar
    have a0 : IntKind.i64.wrap wh = wh := by rw [IntKind.wrap_i64]; omega
    have a1 : IntKind.i64.wrap ((n : Int) + 1) = n1 := by rw [IntKind.wrap_i64]; omega
    have a2 : n1 ≠ 0 := by omega
    have a3 : IntKind.i64.wrap (p : Int) = (p : Int) := by rw [IntKind.wrap_i64]; omega
    have a4 : IntKind.i64.wrap ((n : Int) - (p : Int)) = (np : Int) := by rw [IntKind.wrap_i64]; omega
    have a5 : IntKind.i64.wrap ((fn : Int) - 1) = (fn : Int) - 1 := by rw [IntKind.wrap_i64]; omega
    have a6 : IntKind.i64.wrap ((n : Int) - 1) = (n : Int) - 1 := by rw [IntKind.wrap_i64]; omega
    have a7 : (v0 != v0) = false := by simp
    have a8 : (m0 != m0) = false := by simp
    have a9 : (pr != pr) = false := by simp
    have a10 : (v0 == v0) = true := by simp
    have Hmf := Lib.hid hmf
    have Hv0 := Lib.hid hv0
    have Hm0 := Lib.hid hm0
    have Hcc := Lib.hid hcc
    have Hpr := Lib.hid hpr
    have HvX := Lib.hid hbest
    have HmX := Lib.hid hmany
    have HpX := Lib.hid hpar
    have HcX := Lib.hid hcX
    have He := Lib.hid he
    have HeX := Lib.hid hrX
    have Hk := Lib.hid hko
    have Hcl := Lib.hid hcl
    have Hce := Lib.hid hce
    have Hri := Lib.hid hri
    clear h1 he hri hkn hmir hbest hmany hpar hrX hcg hcX hcl hce hpr hv0 hm0 hcc hmf hn1 hnp hko hwh
    go_enter Try.func12, Try.ntmps12
    go_wp2_with fail
    refine (hfi.out _ HK.out.fsl HK.out.ksl).mono ?_
    rintro e w1 ⟨rfl, hb1⟩
    have HK1 := Lib.hid (HK.out.later hb1)
    obtain ⟨c0, c1, c2⟩ := HK1.out.cells
    clear hb1 HK hfi
    obtain ⟨B, hBe⟩ : ∃ B, w1.heap.size = B := ⟨_, rfl⟩
    have HM0 := Lib.hid (MW.new HK1.out.bel HK1.out.b0 hBe n)
    have HBe := Lib.hid hBe
    clear hBe
    go_wp2_with fail
    rw [HBe.out]
    clear HBe c0 c1 c2
    refine loop_n (fun m b W => b.defers = [] ∧ ∃ (z : Int) (v : Value), z = (m : Int) - 1 ∧ m ≤ fn ∧ MW w W B n FA fn fc n v (mirF n (fs.drop m)) ∧ Fits (none :: some (.slice KA ks.length kc) :: some (.int .u8 wh) :: some (.pointer (some ⟨w.heap.size, 0, none⟩)) :: none :: none :: none :: some (.pointer (some ⟨B, 0, none⟩)) :: some (.int .i64 z) :: none :: none :: none :: none :: none :: none :: none :: none :: none :: none :: none :: none :: none :: none :: none :: none :: none :: none :: none :: none :: none :: none :: none :: none :: none :: none :: none :: none :: none :: none :: none :: none :: none :: none :: none :: none :: none :: none :: none :: none :: none :: none :: none :: none :: none :: none :: none :: none :: none :: none :: none :: none :: none :: none :: none :: none :: none :: none :: none :: none :: none :: none :: none :: none :: none :: none :: none :: none :: none :: none :: none :: none :: none :: none :: none :: none :: none :: none :: none :: none :: none :: none :: none :: none :: none :: none :: none :: none :: none :: none :: none :: none :: none :: none :: none :: none :: none :: none :: none :: none :: none :: none :: none :: none :: none :: none :: none :: none :: none :: none :: none :: none :: none :: none :: none :: none :: none :: none :: none :: none :: none :: none :: none :: none :: none :: none :: none :: none :: none :: none :: none :: none :: none :: none :: none :: none :: none :: none :: none :: none :: none :: none :: none :: none :: none :: none :: none :: none :: none :: none :: none :: none :: none :: none :: none :: none :: none :: none :: none :: none :: none :: none :: none :: none :: none :: none :: none :: none :: none :: none :: none :: none :: none :: none :: none :: none :: none :: none :: none :: none :: none :: none :: none :: none :: none :: none :: []) b.tmps.toList) fn ?_ ?_
    · refine ⟨rfl, _, .slice none 0 0, rfl, Nat.le_refl _, ?_, ?_⟩
      · rw [← hfsl, List.drop_length]; rw [hfsl]; exact HM0.out
      repeat (first | exact fits_nil | refine fits_none ?_ | refine fits_some ?_)
    clear HM0 HK1 a5
    intro m b W hI K hK
    obtain ⟨hds, z, v, hz, hmn, hM, hfit⟩ := hI
    obtain ⟨g, hg⟩ := fits_act hfit
    rw [hds] at hg
    subst hg
    clear hfit hds
    simp only [fillP, Nat.reduceAdd]
    have c0 := hM.b0.cell 0
    have c1 := hM.b0.cell 1
    have z0 := hM.b0.lt
    have e0 := hM.bm.cell 0
    have e1 := hM.bm.cell 1
    have z1 := hM.bm.lt
    have hlo := hM.lo
    cases m with
    | succ i =>
      obtain rfl : z = (i : Int) := by omega
      have i0' : (0 : Int) ≤ (i : Int) := by omega
      have i1 : (i : Int) < (fn : Int) := by omega
      have i3 : IntKind.i64.wrap ((i : Int) - 1) = (i : Int) - 1 := by rw [IntKind.wrap_i64]; omega
      obtain ⟨fb, o, x, rfl, hbw, hx, _⟩ := Hfs.out.ltI (show i < fn by omega)
      obtain ⟨b', o', x', hA', hbx, hx', q0⟩ := (Hfs.out.later hM.bel).ltI (show i < fn by omega)
      cases hA'
      rw [hx] at hx'
      cases hx'
      have hxb := (rib_pair Hri.out).2 x (List.mem_of_getElem? hx)
      obtain ⟨y, hy⟩ : ∃ y, (n : Int) - 1 - x = y := ⟨_, rfl⟩
      have jx : IntKind.i64.wrap ((n : Int) - 1 - x) = y := by rw [IntKind.wrap_i64]; omega
      have hadd := mirF_step (n := (n : Int)) hx
      rw [hy] at hadd
      have hwl := mirF_len (n : Int) (fs.drop (i + 1))
      rw [List.length_drop] at hwl
      obtain ⟨xs, hxs⟩ : ∃ xs, mirF (n : Int) (fs.drop (i + 1)) = xs := ⟨_, rfl⟩
      rw [hxs] at hM hadd hwl
      have hwb : xs.length ≤ 40 := by omega
      clear hwl
      have HP := Lib.hid hM
      have Hadd := Lib.hid hadd
      obtain ⟨i0, hi0, hz0, hz1, hz2⟩ := info_parts info_int
      have zbel := hM.bel.size
      have hvb : v.ownBlock ≠ some fb := fun e => by have := (HP.out.own.lt fb e).1; omega
      have hv0 : v.ownBlock ≠ some w.heap.size := HP.out.b0.notRow HP.out.own (by decide)
      have hv2 : v.ownBlock ≠ some B := HP.out.bm.notRow HP.out.own (by decide)
      have hf2 : W.frozen? ⟨B, 1, none⟩ = false := hM.bm.frozen _
      have hne0 : B ≠ w.heap.size := by omega
      have hne1 : B ≠ fb := by omega
      clear hM hadd hx hxs hxb hz hy
      go_wp2_with fail
      go_region_law
        ((refine step_append_lies _ (by rfl) _ _ _ (by rfl) w.heap.size 3 i0 _ 1 8 und_ints hi0 hz0 hz1 hz2 rfl (by omega) v xs.length _ (by rfl) ((HP.out.own.alloc _).drew)
            ⟨W.heap.size, 0, none⟩ 1 1 [.int .i64 y] (by rfl) (by rfl) (World.news_of_block (cs := #[.int .i64 y]) (t := 3) (fr := (0, 0)) (heap_alloc_new W _)) (by simp [Value.oneCell'])
            (by omega) (by simp only [maxLen]; omega) (by omega) (by simp; omega) (W.heap.size + 1) (by simp) ?_; intro gg cap w3 hown1 hgrow hat hlt'; have hb3 := (HP.out.bm.later (bdrew (balloc (brefl W) _) 1)).grown hgrow hv2; have hc3 := hb3.cell 1; have hf3 := hb3.frozen 1; have hz3 := hb3.lt; clear hb3))
      all_goals
        have hP3 := ((HP.out.later (bdrew (balloc (brefl W) (.cells #[.int .i64 y] 3)) 1)).grown (x := y) hgrow hown1).2
        rw [← Hadd.out] at hP3
        have HP3 := Lib.hid hP3
        clear hown1 hgrow hat hP3 hlt' hc3 hf3 hz3
        go_wp2
        refine hK _ _ i (by omega) ⟨rfl, _, _, rfl, by omega, HP3.out, ?_⟩
        repeat (first | exact fits_nil | refine fits_none ?_ | refine fits_some ?_)
    | zero =>
      obtain rfl : z = -1 := by omega
      rw [List.drop_zero, Hmf.out] at hM
      obtain ⟨G, gc, rfl, hGs⟩ := own_sl hM.own
      have HGs := Lib.hid hGs
      have HKa := Lib.hid (show LW w W w.heap.size n FA fn fc fs KA kc ks from ⟨hM.bel, hM.b0, Hfs.out.later hM.bel, Hks.out.later hM.bel⟩)
      have HBm := Lib.hid hM.bm
      obtain ⟨ml, hml⟩ : ∃ ml, mf.length = ml := ⟨_, rfl⟩
      rw [hml] at e1 HGs HBm
      clear hM hGs hml hK hz hmn hlo
      go_wp2_with fail
      refine (best_fine n FA fn fc fs KA kc ks _ HKa.out.fsl HKa.out.ksl He.out).mono ?_
      rintro e w2 ⟨G2, n2, d2, rfl, hb2, hS2⟩
      rw [Hv0.out]
      rw [Hcc.out] at hS2
      have HC2 := Lib.hid hS2
      have HKb := Lib.hid (HKa.out.later hb2)
      have HBb := Lib.hid (HBm.out.later hb2)
      have HGb := Lib.hid (HGs.out.later hb2)
      clear hb2 HKa HBm HGs hS2 c0 c1 z0 e0 e1 z1
      obtain ⟨c0, c1, c2⟩ := HKb.out.cells
      have e0 := HBb.out.cell 0
      have e1 := HBb.out.cell 1
      have z1 := HBb.out.lt
      go_wp2_with fail
      refine (best_fine n G ml gc mf KA kc ks _ HGb.out HKb.out.ksl HeX.out).mono ?_
      rintro e w3 ⟨G3, n3, d3, rfl, hb3, _⟩
      rw [HvX.out]
      have HK3x := Lib.hid (HKb.out.later hb3)
      have HB3x := Lib.hid (HBb.out.later hb3)
      have HG3x := Lib.hid (HGb.out.later hb3)
      have HC3x := Lib.hid (HC2.out.later hb3)
      clear hb3 HKb HBb HGb HC2 c0 c1 c2 e0 e1 z1
      have HKb := HK3x
      have HBb := HB3x
      have HGb := HG3x
      have HC2 := HC3x
      clear HK3x HB3x HG3x HC3x
      obtain ⟨c0, c1, c2⟩ := HKb.out.cells
      have e0 := HBb.out.cell 0
      have e1 := HBb.out.cell 1
      have z1 := HBb.out.lt
      go_wp2_with fail
      refine (count_fine n FA fn fc fs KA kc ks _ HKb.out.fsl HKb.out.ksl He.out).mono ?_
      rintro e w3 ⟨rfl, hb3⟩
      rw [Hm0.out]
      have HK3x := Lib.hid (HKb.out.later hb3)
      have HB3x := Lib.hid (HBb.out.later hb3)
      have HG3x := Lib.hid (HGb.out.later hb3)
      have HC3x := Lib.hid (HC2.out.later hb3)
      clear hb3 HKb HBb HGb HC2 c0 c1 c2 e0 e1 z1
      have HKb := HK3x
      have HBb := HB3x
      have HGb := HG3x
      have HC2 := HC3x
      clear HK3x HB3x HG3x HC3x
      obtain ⟨c0, c1, c2⟩ := HKb.out.cells
      have e0 := HBb.out.cell 0
      have e1 := HBb.out.cell 1
      have z1 := HBb.out.lt
      go_wp2_with fail
      refine (count_fine n G ml gc mf KA kc ks _ HGb.out HKb.out.ksl HeX.out).mono ?_
      rintro e w3 ⟨rfl, hb3⟩
      rw [HmX.out]
      have HK3x := Lib.hid (HKb.out.later hb3)
      have HB3x := Lib.hid (HBb.out.later hb3)
      have HG3x := Lib.hid (HGb.out.later hb3)
      have HC3x := Lib.hid (HC2.out.later hb3)
      clear hb3 HKb HBb HGb HC2 c0 c1 c2 e0 e1 z1
      have HKb := HK3x
      have HBb := HB3x
      have HGb := HG3x
      have HC2 := HC3x
      clear HK3x HB3x HG3x HC3x
      obtain ⟨c0, c1, c2⟩ := HKb.out.cells
      have e0 := HBb.out.cell 0
      have e1 := HBb.out.cell 1
      have z1 := HBb.out.lt
      go_wp2_with fail
      refine (Parted_ok n FA fn fc fs KA kc ks p _ HKb.out.fsl HKb.out.ksl He.out).mono ?_
      rintro e w3 ⟨rfl, hb3⟩
      rw [Hpr.out]
      have HK3x := Lib.hid (HKb.out.later hb3)
      have HB3x := Lib.hid (HBb.out.later hb3)
      have HG3x := Lib.hid (HGb.out.later hb3)
      have HC3x := Lib.hid (HC2.out.later hb3)
      clear hb3 HKb HBb HGb HC2 c0 c1 c2 e0 e1 z1
      have HKb := HK3x
      have HBb := HB3x
      have HGb := HG3x
      have HC2 := HC3x
      clear HK3x HB3x HG3x HC3x
      obtain ⟨c0, c1, c2⟩ := HKb.out.cells
      have e0 := HBb.out.cell 0
      have e1 := HBb.out.cell 1
      have z1 := HBb.out.lt
      go_wp2_with fail
      refine (Parted_ok n G ml gc mf KA kc ks np _ HGb.out HKb.out.ksl HeX.out).mono ?_
      rintro e w3 ⟨rfl, hb3⟩
      rw [HpX.out]
      have HK3x := Lib.hid (HKb.out.later hb3)
      have HB3x := Lib.hid (HBb.out.later hb3)
      have HG3x := Lib.hid (HGb.out.later hb3)
      have HC3x := Lib.hid (HC2.out.later hb3)
      clear hb3 HKb HBb HGb HC2 c0 c1 c2 e0 e1 z1
      have HKb := HK3x
      have HBb := HB3x
      have HGb := HG3x
      have HC2 := HC3x
      clear HK3x HB3x HG3x HC3x
      obtain ⟨c0, c1, c2⟩ := HKb.out.cells
      have e0 := HBb.out.cell 0
      have e1 := HBb.out.cell 1
      have z1 := HBb.out.lt
      have hn2l := HC2.out.len
      have hn2 : n2 ≤ 24 := by have := Hcl.out; omega
      have b1 : IntKind.i64.wrap ((n2 : Int) - 1) = (n2 : Int) - 1 := by rw [IntKind.wrap_i64]; omega
      have HW0 := Lib.hid (show BW w3 w3 (.slice none 0 0) [] from ⟨brefl _, World.ownsRow_nil _ _ _ _⟩)
      go_wp2_with fail
      clear c0 c1 c2 e0 e1 z1 b1
      refine loop_n (fun m b W => b.defers = [] ∧ ∃ (z : Int) (u : Value), z = (m : Int) - 1 ∧ m ≤ n2 ∧ BW w3 W u (mirL n ks (cc.drop m)) ∧ Fits (none :: some (.slice KA ks.length kc) :: none :: some (.pointer (some ⟨w.heap.size, 0, none⟩)) :: none :: none :: none :: some (.pointer (some ⟨B, 0, none⟩)) :: none :: none :: some (.int .i64 v0) :: some (.slice G2 n2 d2) :: none :: none :: none :: none :: none :: none :: none :: none :: none :: none :: none :: none :: some (u) :: some (.int .i64 z) :: none :: none :: none :: none :: none :: none :: none :: none :: none :: none :: none :: none :: none :: none :: none :: none :: none :: none :: none :: none :: none :: none :: none :: none :: none :: none :: none :: none :: none :: none :: none :: none :: none :: none :: none :: none :: none :: none :: none :: none :: none :: none :: none :: none :: none :: none :: none :: none :: none :: none :: none :: none :: none :: none :: none :: none :: none :: none :: none :: none :: none :: none :: none :: none :: none :: none :: none :: none :: none :: none :: none :: none :: none :: none :: none :: none :: none :: none :: none :: none :: none :: none :: none :: none :: none :: none :: none :: none :: none :: none :: none :: none :: none :: none :: none :: none :: none :: none :: none :: none :: none :: none :: none :: none :: none :: none :: none :: none :: none :: none :: none :: none :: none :: none :: none :: none :: none :: none :: none :: none :: none :: none :: none :: none :: none :: none :: none :: none :: none :: none :: none :: none :: none :: none :: none :: none :: none :: none :: none :: none :: none :: none :: none :: none :: none :: none :: none :: none :: none :: none :: none :: none :: none :: none :: none :: none :: none :: none :: none :: none :: none :: none :: none :: none :: none :: none :: none :: none :: none :: []) b.tmps.toList) n2 ?_ ?_
      · refine ⟨rfl, _, .slice none 0 0, rfl, Nat.le_refl _, ?_, ?_⟩
        · rw [← hn2l, List.drop_length]; exact HW0.out
        repeat (first | exact fits_nil | refine fits_none ?_ | refine fits_some ?_)
      clear HW0
      intro m b W hI K hK
      obtain ⟨hds, z, u, hz, hmn, hM, hfit⟩ := hI
      obtain ⟨g, hg⟩ := fits_act hfit
      rw [hds] at hg
      subst hg
      clear hfit hds
      simp only [fillP, Nat.reduceAdd]
      have HKc := Lib.hid (HKb.out.later hM.bel)
      have HBc := Lib.hid (HBb.out.later hM.bel)
      have HGc := Lib.hid (HGb.out.later hM.bel)
      have HCc := Lib.hid (HC2.out.later hM.bel)
      obtain ⟨c0, c1, c2⟩ := HKc.out.cells
      cases m with
      | succ i =>
        obtain rfl : z = (i : Int) := by omega
        have i0' : (0 : Int) ≤ (i : Int) := by omega
        have i1 : (i : Int) < (n2 : Int) := by omega
        have i3 : IntKind.i64.wrap ((i : Int) - 1) = (i : Int) - 1 := by rw [IntKind.wrap_i64]; omega
        obtain ⟨cb, co, s, rfl, hcb0, _, _, _⟩ := HC2.out.ltS (show i < n2 by omega)
        obtain ⟨cb', co', s', hA', hcb, hs, s0, s1⟩ := HCc.out.ltS (show i < n2 by omega)
        cases hA'
        obtain ⟨f, k, x, rfl, hx, hcan⟩ := Hce.out s' (List.mem_of_getElem? hs)
        have hkl : k < ks.length := (List.getElem?_eq_some_iff.1 hx).1
        obtain ⟨kb, ko, _, rfl, hkb0, _, _, _, _⟩ := HKb.out.ksl.ltK hkl
        obtain ⟨kb', ko', x', hA', hkb, hx', q0, _, _⟩ := HKc.out.ksl.ltK hkl
        cases hA'
        rw [hx] at hx'
        cases hx'
        have hxb := Hk.out.bd hx
        have hle := (canB_iff.1 hcan).1
        obtain ⟨wz, hwz⟩ : ∃ wz, x.w = wz := ⟨_, rfl⟩
        rw [hwz] at q0
        have hadd := mirL_step (n := (n : Int)) (ks := ks) hs
        rw [wOf_at hx, hwz] at hadd
        simp only at hadd s0 s1
        obtain ⟨y1, hy1⟩ : ∃ y1, (n : Int) - (f : Int) = y1 := ⟨_, rfl⟩
        obtain ⟨y2, hy2⟩ : ∃ y2, y1 - wz = y2 := ⟨_, rfl⟩
        rw [hy1, hy2] at hadd
        have j0 : (0 : Int) ≤ (k : Int) := by omega
        have j1 : (k : Int) < (ks.length : Int) := by omega
        have j2 : IntKind.i64.wrap ((n : Int) - (f : Int)) = y1 := by rw [IntKind.wrap_i64]; omega
        have j3 : IntKind.i64.wrap (y1 - wz) = y2 := by rw [IntKind.wrap_i64]; omega
        have hll := mirL_len (n : Int) ks (cc.drop (i + 1))
        rw [List.length_drop] at hll
        obtain ⟨ls, hls⟩ : ∃ ls, mirL (n : Int) ks (cc.drop (i + 1)) = ls := ⟨_, rfl⟩
        rw [hls] at hM hadd hll
        have hlb : ls.length ≤ 24 := by omega
        clear hll
        have Hadd := Lib.hid hadd
        have HM := Lib.hid hM
        obtain ⟨i0, hi0, hz0, hz1, hz2⟩ := info_parts info_sheet
        have hsz := hM.bel.size
        have hv0 : u.ownBlock ≠ some w.heap.size := fun e => by have := (HM.out.own.lt _ e).1; have := HKb.out.b0.lt; omega
        have hvc : u.ownBlock ≠ some cb := fun e => by have := (HM.out.own.lt _ e).1; omega
        have hvk : u.ownBlock ≠ some kb := fun e => by have := (HM.out.own.lt _ e).1; omega
        clear hM hadd hs hx hxb hle hz hls hy1 hy2 hwz hcan c1
        go_wp2_with fail
        go_region_held3 (fun w' => w'.cell? ⟨w.heap.size, 0, none⟩ = some (.int .i64 n) ∧ w'.cell? ⟨cb, co + i * 2, none⟩ = some (.int .i64 f) ∧ w'.cell? ⟨cb, co + i * 2 + 1, none⟩ = some (.int .i64 k) ∧ w'.cell? ⟨kb, ko + k * 3, none⟩ = some (.int .i64 wz))
          (first
            | go_keep
            | (go_split_ands
               refine ⟨?_, ?_, ?_, ?_⟩
               · (rw [hgrow.cell_far _ (by simp; omega) (Ne.symm hv0)]; assumption)
               · (rw [hgrow.cell_far _ (by simp; omega) (Ne.symm hvc)]; assumption)
               · (rw [hgrow.cell_far _ (by simp; omega) (Ne.symm hvc)]; assumption)
               · (rw [hgrow.cell_far _ (by simp; omega) (Ne.symm hvk)]; assumption)))
          ((refine step_append_lies _ (by rfl) _ _ _ (by rfl) w3.heap.size 56 i0 _ 2 16 und_sheets hi0 hz0 hz1 hz2 rfl (by omega) u ls.length _ (by rfl) ((HM.out.own.alloc _).drew)
              ⟨W.heap.size, 0, none⟩ 1 1 [.int .i64 y2, .int .i64 k] (by rfl) (by rfl) (World.news_of_block (cs := #[.int .i64 y2, .int .i64 k]) (t := 56) (fr := (0, 0)) (heap_alloc_new W _)) (by simp [Value.oneCell'])
              (by omega) (by simp only [maxLen]; omega) (by omega) (by simp; omega) (W.heap.size + 1) (by simp) ?_; intro gg cap w4 hown1 hgrow hat hlt'))
        have hM3 := (HM.out.later (bdrew (balloc (brefl W) (.cells #[.int .i64 y2, .int .i64 k] 56)) 1)).grown (x := ⟨y2, k⟩) hgrow hown1
        rw [← Hadd.out] at hM3
        have HM3 := Lib.hid hM3
        clear hown1 hgrow hat hM3 hlt'
        go_wp2
        refine hK _ _ i (by omega) ⟨rfl, _, _, rfl, by omega, HM3.out, ?_⟩
        repeat (first | exact fits_nil | refine fits_none ?_ | refine fits_some ?_)
      | zero =>
        obtain rfl : z = -1 := by omega
        rw [List.drop_zero] at hM
        obtain ⟨G5, n5, d5, rfl, hS5⟩ := own_slS hM.own
        have HS5 := Lib.hid hS5
        have e0 := HBc.out.cell 0
        have e1 := HBc.out.cell 1
        have z1 := HBc.out.lt
        clear hM hS5 hK hz hmn
        go_wp2_with fail
        refine (CheckCuts_ok n G ml gc mf KA kc ks G5 n5 d5 (mirL n ks cc) _ HGc.out HKc.out.ksl HS5.out HeX.out).mono ?_
        rintro e w5 ⟨rfl, hb5⟩
        rw [HcX.out]
        have HKd := Lib.hid (HKc.out.later hb5)
        clear hb5 HKc
        go_wp2_with fail
        refine (works_any _).mono ?_
        rintro e w6 ⟨rfl, hb6⟩
        have HB := Lib.hid (HKd.out.later hb6).bel
        clear hb6
        go_wp2
        go_ret
        exact ⟨rfl, HB.out⟩
end Go.Proofs.Ytjmphmnimnbgkaa
