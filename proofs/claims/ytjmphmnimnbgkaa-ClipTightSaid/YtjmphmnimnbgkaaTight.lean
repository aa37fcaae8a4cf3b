/- crossbandlaw02.tight: each sheet of cuts has unit prices that are its Price together, waste has none; and the walk of ClipTight. -/
import Derived.Test.YtjmphmnimnbgkaaGiven
namespace Go.Proofs.Ytjmphmnimnbgkaa
open Go.RowKit Go.Shelf

structure TW (w W : World) (KA : Option Addr) (kc : Nat) (ks : List Kd) (CA : Option Addr) (cn cc : Nat) (cuts : List Sh) (PA : Option Addr) (pn pc : Nat) (ps : List Int) : Prop where
  bel : Below w.heap.size w W
  ksl : Sl 3 encK W W.heap.size KA ks.length kc ks
  csl : Sl 2 encS W W.heap.size CA cn cc cuts
  psl : Sl 1 encI W W.heap.size PA pn pc ps
theorem TW.later {w W W' : World} {KA : Option Addr} {kc : Nat} {ks : List Kd} {CA : Option Addr} {cn cc : Nat} {cuts : List Sh} {PA : Option Addr} {pn pc : Nat} {ps : List Int} (h : TW w W KA kc ks CA cn cc cuts PA pn pc ps) (hb : Below W.heap.size W W') : TW w W' KA kc ks CA cn cc cuts PA pn pc ps :=
  ⟨Below.later h.bel hb, h.ksl.later hb, h.csl.later hb, h.psl.later hb⟩
theorem price_at {A : Nat → Int} {L : Nat} {j : Nat} {x : Int} (h : (pricesAt A L)[j]? = some x) (hj : j < L) : x = A (j + 1) - A j := by
  rw [prices_at A hj] at h
  exact (Option.some.inj h).symm

set_option maxRecDepth 100000 in
set_option maxHeartbeats 4000000 in
theorem tight_any (KA : Option Addr) (kc : Nat) (ks : List Kd) (CA : Option Addr) (cn cc : Nat) (cuts : List Sh) (PA : Option Addr) (pc : Nat) (A : Nat → Int) (L : Nat) (w : World) (hks : Sl 3 encK w w.heap.size KA ks.length kc ks) (hC : Sl 2 encS w w.heap.size CA cn cc cuts) (hps : Sl 1 encI w w.heap.size PA L pc (pricesAt A L)) (hko : KOk ks) (hL : L ≤ 24) (hcn : cn ≤ 24) (hA : ∀ j, j ≤ L → 0 ≤ A j ∧ A j ≤ 24000) (hm : ∀ j, j < L → A j ≤ A (j + 1)) (hT : TightL L ks A 0 cuts) :
    Calls Try.prog 42 #[.slice KA ks.length kc, .slice CA cn cc, .slice PA L pc] w fun e w' => e = .returned (.bool true) ∧ Below w.heap.size w w' := by
  have Hk := Lib.hid hko
  have HA := Lib.hid hA
  have Hm := Lib.hid hm
  have HT := Lib.hid hT
  have Hcl := Lib.hid hC.len
  have HW := Lib.hid (show TW w w KA kc ks CA cn cc cuts PA L pc (pricesAt A L) from ⟨brefl w, hks, hC, hps⟩)
  clear hks hC hps hko hA hm hT
  go_enter Try.func42, Try.ntmps42
  go_wp2_with fail
  refine loop_n (fun m b W => b.defers = [] ∧ ∃ i nx : Nat, i + m = cn ∧ nx ≤ L ∧ TightL L ks A nx (cuts.drop i) ∧ TW w W KA kc ks CA cn cc cuts PA L pc (pricesAt A L) ∧ Fits (some (.slice KA ks.length kc) :: some (.slice CA cn cc) :: some (.slice PA L pc) :: none :: none :: none :: none :: some (.int .i64 (nx : Nat)) :: some (.int .i64 (i : Nat)) :: none :: none :: none :: none :: none :: none :: none :: none :: none :: none :: none :: none :: none :: none :: none :: none :: none :: none :: none :: none :: none :: none :: none :: none :: none :: none :: none :: none :: none :: none :: none :: none :: none :: none :: none :: none :: none :: none :: none :: none :: none :: none :: none :: none :: none :: none :: none :: none :: none :: none :: none :: none :: none :: none :: none :: none :: none :: none :: none :: none :: none :: none :: none :: none :: none :: none :: none :: none :: none :: none :: none :: none :: none :: none :: none :: []) b.tmps.toList) cn ?_ ?_
  · refine ⟨rfl, 0, 0, by omega, Nat.zero_le _, HT.out, HW.out, ?_⟩
    repeat (first | exact fits_nil | refine fits_none ?_ | refine fits_some ?_)
  clear HW HT
  intro m b W hI K hK
  obtain ⟨hds, i, nx, him, hnx, hT, hW, hfit⟩ := hI
  obtain ⟨g, hg⟩ := fits_act hfit
  rw [hds] at hg
  subst hg
  clear hfit hds
  simp only [fillP, Nat.reduceAdd]
  by_cases hlt : i < cn
  · obtain ⟨cb, co, s, rfl, hcb, hs, s0, s1⟩ := hW.csl.ltS hlt
    have hdr : cuts.drop i = s :: cuts.drop (i + 1) := by
      obtain ⟨h1, h2⟩ := List.getElem?_eq_some_iff.1 hs
      rw [List.drop_eq_getElem_cons h1, h2]
    rw [hdr] at hT
    cases hT with
    | cons _ f k x _ hif hfe hx hwaste hsum hrest =>
    have hkl : k < ks.length := (List.getElem?_eq_some_iff.1 hx).1
    obtain ⟨kb, ko, x', rfl, hkb, hx', q0, q1, q2⟩ := hW.ksl.ltK hkl
    rw [hx] at hx'
    cases hx'
    have hxb := Hk.out.bd hx
    obtain ⟨wd, hwd⟩ : ∃ wd : Nat, x.w = wd := ⟨x.w.toNat, by omega⟩
    obtain ⟨pr, hpr⟩ : ∃ pr, x.p = pr := ⟨_, rfl⟩
    have hwn : x.w.toNat = wd := by omega
    rw [hwn] at hfe hsum hrest
    rw [hwd] at q0
    rw [hpr] at q1 hsum
    have i1 : (i : Int) < (cn : Int) := by omega
    have i2 : (0 : Int) ≤ (i : Int) := by omega
    have i3 : IntKind.i64.wrap ((i : Int) + 1) = (i : Int) + 1 := by rw [IntKind.wrap_i64]; omega
    have j0 : (0 : Int) ≤ (k : Int) := by omega
    have j1 : (k : Int) < (ks.length : Int) := by omega
    have j2 : IntKind.i64.wrap ((f : Int) + (wd : Int)) = (f : Int) + (wd : Int) := by rw [IntKind.wrap_i64]; omega
    have HW2 := Lib.hid (hW.later (balloc (brefl W) (.cells #[.int .i64 wd, .int .i64 pr, .int .i64 x.m] 67)))
    have hB := Blk.new W 67 #[.int .i64 wd, .int .i64 pr, .int .i64 x.m]
    obtain ⟨N, hN⟩ : ∃ N, W.heap.size = N := ⟨_, rfl⟩
    have HB := Lib.hid (show Blk (W.alloc (.cells #[.int .i64 wd, .int .i64 pr, .int .i64 x.m] 67)) N 67 #[.int .i64 wd, .int .i64 pr, .int .i64 x.m] by rw [← hN]; exact hB)
    have Hwaste := Lib.hid hwaste
    have Hsum := Lib.hid hsum
    have Hrest := Lib.hid hrest
    have Hs := Lib.hid hs
    clear hW hwaste hsum hrest hdr hs hx hxb hwd hwn hpr hB
    go_wp2_with fail
    try rw [hN]
    clear hN q0 q1 q2 s0 s1 hkb hcb
    refine loop_n (fun m b W => b.defers = [] ∧ ∃ j : Nat, j + m = f ∧ nx ≤ j ∧ TW w W (some ⟨kb, ko, none⟩) kc ks (some ⟨cb, co, none⟩) cn cc cuts PA L pc (pricesAt A L) ∧ Blk W N 67 #[.int .i64 wd, .int .i64 pr, .int .i64 x.m] ∧ Fits (some (.slice (some ⟨kb, ko, none⟩) ks.length kc) :: some (.slice (some ⟨cb, co, none⟩) cn cc) :: some (.slice PA L pc) :: none :: none :: none :: none :: some (.int .i64 (j : Nat)) :: some (.int .i64 (i : Nat)) :: some (.pointer (some ⟨N, 0, none⟩)) :: none :: none :: none :: none :: none :: none :: none :: none :: none :: none :: none :: none :: none :: none :: none :: none :: none :: none :: none :: none :: none :: none :: none :: none :: none :: none :: none :: none :: none :: none :: none :: none :: none :: none :: none :: none :: none :: none :: none :: none :: none :: none :: none :: none :: none :: none :: none :: none :: none :: none :: none :: none :: none :: none :: none :: none :: none :: none :: none :: none :: none :: none :: none :: none :: none :: none :: none :: none :: none :: none :: none :: none :: none :: none :: []) b.tmps.toList) (f - nx) ?_ ?_
    · refine ⟨rfl, nx, by omega, Nat.le_refl _, HW2.out, HB.out, ?_⟩
      repeat (first | exact fits_nil | refine fits_none ?_ | refine fits_some ?_)
    clear HW2 HB
    intro m2 b W hI K2 hK2
    obtain ⟨hds, j, hjm, hnj, hW, hB, hfit⟩ := hI
    obtain ⟨g, hg⟩ := fits_act hfit
    rw [hds] at hg
    subst hg
    clear hfit hds
    simp only [fillP, Nat.reduceAdd]
    obtain ⟨cb', co', s', hE', hcb, hs', s0, s1⟩ := hW.csl.ltS hlt
    cases hE'
    rw [Hs.out] at hs'
    cases hs'
    have HW := Lib.hid hW
    have HB := Lib.hid hB
    have k0 : (0 : Int) ≤ (j : Int) := by omega
    have k2 : IntKind.i64.wrap ((j : Int) + 1) = (j : Int) + 1 := by rw [IntKind.wrap_i64]; omega
    by_cases hjf : j < f
    · obtain ⟨pb, po, y, rfl, hpb, hy, y0⟩ := hW.psl.ltI (show j < L by omega)
      have hy0 := price_at hy (by omega)
      rw [Hwaste.out j hnj hjf, Int.sub_self] at hy0
      subst hy0
      have d0 : (j : Int) < (f : Int) := by omega
      have k1 : (j : Int) < (L : Int) := by omega
      clear hW hB hy
      go_wp2
      refine hK2 _ _ (m2 - 1) (by omega) ⟨rfl, j + 1, by omega, by omega, HW.out, HB.out, ?_⟩
      repeat (first | exact fits_nil | refine fits_none ?_ | refine fits_some ?_)
    · obtain rfl : j = f := by omega
      have d0 : ¬ (j : Int) < (j : Int) := by omega
      clear hW hB hK2 hjf
      go_wp2_with fail
      clear s0 s1 hcb d0
      refine loop_n (fun m b W => b.defers = [] ∧ ∃ (e : Nat) (sm : Int), e + m = j + wd ∧ j ≤ e ∧ sm = A e - A j ∧ TW w W (some ⟨kb, ko, none⟩) kc ks (some ⟨cb, co, none⟩) cn cc cuts PA L pc (pricesAt A L) ∧ Blk W N 67 #[.int .i64 wd, .int .i64 pr, .int .i64 x.m] ∧ Fits (some (.slice (some ⟨kb, ko, none⟩) ks.length kc) :: some (.slice (some ⟨cb, co, none⟩) cn cc) :: some (.slice PA L pc) :: none :: none :: none :: none :: some (.int .i64 (e : Nat)) :: some (.int .i64 (i : Nat)) :: some (.pointer (some ⟨N, 0, none⟩)) :: some (.int .i64 sm) :: none :: none :: none :: none :: none :: none :: none :: none :: none :: none :: none :: none :: none :: none :: none :: none :: none :: none :: none :: none :: none :: none :: none :: none :: none :: none :: none :: none :: none :: none :: none :: none :: none :: none :: none :: none :: none :: none :: none :: none :: none :: none :: none :: none :: none :: none :: none :: none :: none :: none :: none :: none :: none :: none :: none :: none :: none :: none :: none :: none :: none :: none :: none :: none :: none :: none :: none :: none :: none :: none :: none :: none :: none :: []) b.tmps.toList) wd ?_ ?_
      · refine ⟨rfl, j, 0, by omega, Nat.le_refl _, by omega, HW.out, HB.out, ?_⟩
        repeat (first | exact fits_nil | refine fits_none ?_ | refine fits_some ?_)
      clear HW HB
      intro m3 b W hI K3 hK3
      obtain ⟨hds, e, sm, hem, hje, hsm, hW, hB, hfit⟩ := hI
      obtain ⟨g, hg⟩ := fits_act hfit
      rw [hds] at hg
      subst hg
      clear hfit hds
      simp only [fillP, Nat.reduceAdd]
      obtain ⟨cb', co', s', hE', hcb, hs', s0, s1⟩ := hW.csl.ltS hlt
      cases hE'
      rw [Hs.out] at hs'
      cases hs'
      have z0 := hB.cell 0
      have z1 := hB.cell 1
      have z2 := hB.lt
      have HW := Lib.hid hW
      have HB := Lib.hid hB
      have Hsm := Lib.hid hsm
      by_cases hee : e < j + wd
      · obtain ⟨pb, po, y, rfl, hpb, hy, y0⟩ := hW.psl.ltI (show e < L by omega)
        have hy0 := price_at hy (by omega)
        have a1 := HA.out e (by omega)
        have a2 := HA.out (e + 1) (by omega)
        have a3 := HA.out j (by omega)
        have a4 := Hm.out e (by omega)
        have d0 : decide ((e : Int) < (j : Int) + (wd : Int)) = true := by simp; omega
        have d1 : decide (y < 0) = false := by simp; omega
        have d2 : decide (24000 < y) = false := by simp; omega
        have d3 : IntKind.i64.wrap (sm + y) = sm + y := by rw [IntKind.wrap_i64]; omega
        have d4 : IntKind.i64.wrap ((e : Int) + 1) = (e : Int) + 1 := by rw [IntKind.wrap_i64]; omega
        have d5 : (0 : Int) ≤ (e : Int) := by omega
        have d6 : (e : Int) < (L : Int) := by omega
        have Hsm2 := Lib.hid (show sm + y = A (e + 1) - A j by omega)
        clear hW hB hy hy0 hsm a1 a2 a3 a4
        go_wp2_with fail
        refine dag 10 (by kernel_rfl) (by kernel_rfl) (.is ?_ :: .is ?_ :: .is ?_ :: .is ?_ :: .is ?_ :: .is ?_ :: .is ?_ :: .is ?_ :: .is ?_ :: .is ?_ :: []) rfl ?st1 ?ob1
        case st1 => simp [Spec.ok]
        case ob1 =>
          intro env W' hG
          obtain ⟨hc, hf⟩ := bcell hG
          repeat (refine obls_is ?_ ?_; unfold doesAt; go_simp; (try go_bits); (first | (refine ⟨brefl _, ?_⟩; rfl) | rfl); intro K hK; go_simp; refine hK _ ?_; clear hK K)
          refine obls_nil (fun _ => ?_)
          have HW3 := Lib.hid (HW.out.later hG)
          have HB3 := Lib.hid (HB.out.later hG)
          have y0' := (hc pb (po + e) hpb).trans y0
          have hgs := hG.size
          have hpb' : pb < W'.heap.size := by omega
          clear hc hf hG y0 hgs hpb s0 s1 hcb z0 z1 z2 HW HB
          go_wp2
          refine hK3 _ _ (m3 - 1) (by omega) ⟨rfl, e + 1, sm + y, by omega, by omega, Hsm2.out, HW3.out, HB3.out, ?_⟩
          repeat (first | exact fits_nil | refine fits_none ?_ | refine fits_some ?_)
      · obtain rfl : e = j + wd := by omega
        have d0 : decide (((j + wd : Nat) : Int) < (j : Int) + (wd : Int)) = false := by simp
        obtain rfl : sm = pr := by rw [hsm]; exact Hsum.out
        have d1 : (sm != sm) = false := by simp
        obtain ⟨e, he⟩ : ∃ e, j + wd = e := ⟨_, rfl⟩
        rw [he] at d0 hfe Hrest
        simp only [he]
        clear hW hB hsm hK3 hee
        go_wp2_with fail
        refine dag 10 (by kernel_rfl) (by kernel_rfl) (.is ?_ :: .is ?_ :: .is ?_ :: .is ?_ :: .is ?_ :: .is ?_ :: .is ?_ :: .is ?_ :: .is ?_ :: .is ?_ :: []) rfl ?st2 ?ob2
        case st2 => simp [Spec.ok]
        case ob2 =>
          intro env W' hG
          obtain ⟨hc, hf⟩ := bcell hG
          repeat (refine obls_is ?_ ?_; unfold doesAt; go_simp; (try go_bits); (first | (refine ⟨brefl _, ?_⟩; rfl) | rfl); intro K hK; go_simp; refine hK _ ?_; clear hK K)
          refine obls_nil (fun _ => ?_)
          have HW3 := Lib.hid (HW.out.later hG)
          have z0' := (hc N 0 z2).trans z0
          have z1' := (hc N 1 z2).trans z1
          have hgs := hG.size
          have hz' : N < W'.heap.size := by omega
          clear hc hf hG hgs s0 s1 hcb z0 z1 z2 HW HB
          go_wp2
          refine hK _ _ (m - 1) (by omega) ⟨rfl, i + 1, e, by omega, hfe, Hrest.out, HW3.out, ?_⟩
          repeat (first | exact fits_nil | refine fits_none ?_ | refine fits_some ?_)
  · obtain rfl : i = cn := by omega
    have i1 : ¬ (i : Int) < (i : Int) := by omega
    rw [List.drop_eq_nil_of_le (by rw [Hcl.out]; exact Nat.le_refl _)] at hT
    have hflat : ∀ j, nx ≤ j → j < L → A (j + 1) = A j := by
      cases hT with
      | nil _ _ h => exact h
    have Hflat := Lib.hid hflat
    have HW := Lib.hid hW
    clear hW hT hflat hK
    go_wp2_with fail
    clear i1
    refine loop_n (fun m b W => b.defers = [] ∧ ∃ j : Nat, j + m = L ∧ nx ≤ j ∧ TW w W KA kc ks CA i cc cuts PA L pc (pricesAt A L) ∧ Fits (none :: none :: some (.slice PA L pc) :: none :: none :: none :: none :: some (.int .i64 (j : Nat)) :: none :: none :: none :: none :: none :: none :: none :: none :: none :: none :: none :: none :: none :: none :: none :: none :: none :: none :: none :: none :: none :: none :: none :: none :: none :: none :: none :: none :: none :: none :: none :: none :: none :: none :: none :: none :: none :: none :: none :: none :: none :: none :: none :: none :: none :: none :: none :: none :: none :: none :: none :: none :: none :: none :: none :: none :: none :: none :: none :: none :: none :: none :: none :: none :: none :: none :: none :: none :: none :: none :: none :: none :: none :: none :: none :: none :: []) b.tmps.toList) (L - nx) ?_ ?_
    · refine ⟨rfl, nx, by omega, Nat.le_refl _, HW.out, ?_⟩
      repeat (first | exact fits_nil | refine fits_none ?_ | refine fits_some ?_)
    clear HW
    intro m2 b W hI K2 hK2
    obtain ⟨hds, j, hjm, hnj, hW, hfit⟩ := hI
    obtain ⟨g, hg⟩ := fits_act hfit
    rw [hds] at hg
    subst hg
    clear hfit hds
    simp only [fillP, Nat.reduceAdd]
    have HW := Lib.hid hW
    by_cases hjL : j < L
    · have k0 : (0 : Int) ≤ (j : Int) := by omega
      have k1 : (j : Int) < (L : Int) := by omega
      have k2 : IntKind.i64.wrap ((j : Int) + 1) = (j : Int) + 1 := by rw [IntKind.wrap_i64]; omega
      obtain ⟨pb, po, y, rfl, hpb, hy, y0⟩ := hW.psl.ltI hjL
      have hy0 := price_at hy hjL
      rw [Hflat.out j hnj hjL, Int.sub_self] at hy0
      subst hy0
      clear hW hy
      go_wp2
      refine hK2 _ _ (m2 - 1) (by omega) ⟨rfl, j + 1, by omega, by omega, HW.out, ?_⟩
      repeat (first | exact fits_nil | refine fits_none ?_ | refine fits_some ?_)
    · obtain rfl : j = L := by omega
      have k1 : ¬ (j : Int) < (j : Int) := by omega
      clear hW hK2 hjL
      go_wp2
      go_ret
      exact ⟨rfl, HW.out.bel⟩

set_option maxRecDepth 100000 in
set_option maxHeartbeats 4000000 in
theorem tight_law (L : Int) (FA : Option Addr) (fn fc : Nat) (fs : List Int) (KA : Option Addr) (kc : Nat) (ks : List Kd) (BA : Option Addr) (bn bc : Nat) (bs : List Nat) (w : World) (hfs : Sl 1 encI w w.heap.size FA fn fc fs) (hks : Sl 3 encK w w.heap.size KA ks.length kc ks) (hbs : Sl 1 encB w w.heap.size BA bn bc bs) (hbd : ∀ x ∈ bs, x < 256) :
    Calls Try.prog 9 #[.agg #[.int .i64 L, .slice FA fn fc], .slice KA ks.length kc, .slice BA bn bc] w fun e w' => e = .returned (.bool true) ∧ Below w.heap.size w w' := by
  have hB := balloc (brefl w) (.cells #[.int .i64 L, .slice FA fn fc] 24)
  have HK := Lib.hid (show LW w (w.alloc (.cells #[.int .i64 L, .slice FA fn fc] 24)) w.heap.size L FA fn fc fs KA kc ks from ⟨hB, Blk.new w _ _, hfs.later hB, hks.later hB⟩)
  have Hbs := Lib.hid hbs
  have Hbd := Lib.hid hbd
  have hfi := Lib.hid (fun W h1 h2 => fine_any L FA fn fc fs KA kc ks W h1 h2)
  clear hB hfs hks hbs hbd
  cases hg : (fineB L fn fs ks && !decide ((60 : Int) < (bn : Int))) with
  | false =>
    have hway : (fineB L fn fs ks = false) ∨ (fineB L fn fs ks = true ∧ decide ((60 : Int) < (bn : Int)) = true) := by
      cases h1 : fineB L fn fs ks <;> cases h2 : decide ((60 : Int) < (bn : Int)) <;> simp_all
    clear hg
    rcases hway with h1 | ⟨h1, h2⟩
    all_goals
      rw [h1] at hfi
      clear h1
      go_enter Try.func9, Try.ntmps9
      go_wp2_with fail
      refine (hfi.out _ HK.out.fsl HK.out.ksl).mono ?_
      rintro e w1 ⟨rfl, hb1⟩
      have HB := Lib.hid (Below.later HK.out.bel hb1)
      clear hb1
      go_wp2_with fail
      refine (works_any _).mono ?_
      rintro e w2 ⟨rfl, hb2⟩
      have HB2 := Lib.hid (Below.later HB.out hb2)
      clear hb2
      go_wp2
      go_ret
      exact ⟨rfl, HB2.out⟩
  | true =>
    simp only [Bool.and_eq_true, Bool.not_eq_true'] at hg
    obtain ⟨h1, h2⟩ := hg
    rw [h1] at hfi
    obtain ⟨he, hfn, _⟩ := fine_rk h1
    obtain ⟨n, rfl, hl1, hl2, hko⟩ := valid_nat he
    have hbn : bn ≤ 60 := by simp at h2; omega
    obtain ⟨g, hgd⟩ : ∃ g, givenP n (Fst fs n) ks bs 0 = g := ⟨_, rfl⟩
    obtain ⟨v, hv⟩ : ∃ v, behindAt n (Fst fs n) ks n 0 = v := ⟨_, rfl⟩
    obtain ⟨a, ha⟩ : ∃ a, valL ks g = a := ⟨_, rfl⟩
    obtain ⟨cc, hcc⟩ : ∃ cc, firstAt n (Fst fs n) ks (behindAt n (Fst fs n) ks n) n 0 = cc := ⟨_, rfl⟩
    obtain ⟨A, hA⟩ : ∃ A, aheadAt n (Fst fs n) ks n = A := ⟨_, rfl⟩
    have hgood := given_good (F := Fst fs n) hko bs 0 (Nat.zero_le n)
    rw [hgd] at hgood
    have hcw := hgood.worth hko
    rw [ha] at hcw
    have hF := behind_from (L := n) (F := Fst fs n) hko
    have hU := ahead_upto (L := n) (F := Fst fs n) hko
    have hab := ahead_behind (L := n) (F := Fst fs n) hko
    have hbA := aheadAt_bd (L := n) (F := Fst fs n) hko n
    rw [hA] at hU hab hbA
    rw [hv] at hab
    have hcg := first_good hko hF n 0 (by omega) (Nat.zero_le _)
    rw [hcc, hv] at hcg
    have hz := hU.zero
    have hgl := hgood.len hko
    have hcl := hcg.1.len hko
    have hTc : TightL n ks A 0 cc := hcg.1.tight hko hU (by omega)
    have hTg : a = v → TightL n ks A 0 g := fun h => hgood.tight hko hU (by omega)
    have hbd2 : ∀ j, j ≤ n → 0 ≤ A j ∧ A j ≤ 24000 := fun j hj => by have := hbA j; have := (flat_of hU.waste hj (Nat.le_refl n)).1; have := hbA n; omega
    have Hgd := Lib.hid hgd
    have Hv := Lib.hid hv
    have Hcc := Lib.hid hcc
    have HA := Lib.hid hA
    have Hcw := Lib.hid hcw
    have He := Lib.hid he
    have Hk := Lib.hid hko
    have HTc := Lib.hid hTc
    have HTg := Lib.hid hTg
    have Hgl := Lib.hid hgl
    have Hcl := Lib.hid hcl
    have Hb2 := Lib.hid hbd2
    have Hm := Lib.hid hU.waste
    clear hgd hv ha hcc hA hgood hcw hF hU hab hbA hcg hz hgl hcl hTc hTg hbd2 he hko h1
    go_enter Try.func9, Try.ntmps9
    go_wp2_with fail
    refine (hfi.out _ HK.out.fsl HK.out.ksl).mono ?_
    rintro e w1 ⟨rfl, hb1⟩
    have HK1 := Lib.hid (HK.out.later hb1)
    obtain ⟨c0, c1, c2⟩ := HK1.out.cells
    clear hb1 HK hfi
    go_wp2_with fail
    refine (best_fine n FA fn fc fs KA kc ks _ HK1.out.fsl HK1.out.ksl He.out).mono ?_
    rintro e w2 ⟨G2, n2, d2, rfl, hb2, hS2⟩
    rw [Hv.out]
    rw [Hcc.out] at hS2
    have HK2 := Lib.hid (HK1.out.later hb2)
    have HS2 := Lib.hid hS2
    clear hb2 HK1 c0 c1 c2 hS2
    obtain ⟨c0, c1, c2⟩ := HK2.out.cells
    go_wp2_with fail
    refine (Prices_ok n FA fn fc fs KA kc ks _ HK2.out.fsl HK2.out.ksl He.out).mono ?_
    rintro e w3 ⟨G4, d4, rfl, hb3, hS4⟩
    rw [HA.out] at hS4
    have HK3 := Lib.hid (HK2.out.later hb3)
    have HS3 := Lib.hid (HS2.out.later hb3)
    have HP3 := Lib.hid hS4
    clear hb3 HK2 HS2 hS4 c0 c1 c2
    obtain ⟨c0, c1, c2⟩ := HK3.out.cells
    have dn : ((n : Int) != (n : Int)) = false := by simp
    go_wp2_with fail
    refine (tight_any KA kc ks G2 n2 d2 cc G4 d4 A n _ HK3.out.ksl HS3.out HP3.out Hk.out hl2 (by have := Hcl.out; have := HS3.out.len; omega) Hb2.out Hm.out HTc.out).mono ?_
    rintro e w4 ⟨rfl, hb4⟩
    have HK4 := Lib.hid (HK3.out.later hb4)
    have HP4 := Lib.hid (HP3.out.later hb4)
    clear hb4 HK3 HS3 HP3 c0 c1 c2
    obtain ⟨c0, c1, c2⟩ := HK4.out.cells
    go_wp2_with fail
    refine (given_any n FA fn fc fs KA kc ks BA bn bc bs _ HK4.out.fsl HK4.out.ksl (Hbs.out.later HK4.out.bel) Hbd.out hbn hl2 Hk.out).mono ?_
    rintro e w5 ⟨u, rfl, hb5, hown⟩
    rw [Hgd.out] at hown
    obtain ⟨G3, n3, d3, rfl, hS5⟩ := own_slS hown
    have HK5 := Lib.hid (HK4.out.later hb5)
    have HP5 := Lib.hid (HP4.out.later hb5)
    have HS5 := Lib.hid hS5
    clear hb5 HK4 HP4 hown hS5 c0 c1 c2
    obtain ⟨c0, c1, c2⟩ := HK5.out.cells
    go_wp2_with fail
    refine (CheckCuts_ok n FA fn fc fs KA kc ks G3 n3 d3 g _ HK5.out.fsl HK5.out.ksl HS5.out He.out).mono ?_
    rintro e w6 ⟨rfl, hb6⟩
    rw [Hcw.out]
    have HK6 := Lib.hid (HK5.out.later hb6)
    have HP6 := Lib.hid (HP5.out.later hb6)
    have HS6 := Lib.hid (HS5.out.later hb6)
    clear hb6 HK5 HP5 HS5 c0 c1 c2
    by_cases hav : a = v
    · have HT := Lib.hid (HTg.out hav)
      have d1 : (a != v) = false := by simpa using hav
      clear hav HTg HTc
      go_wp2_with fail
      refine (tight_any KA kc ks G3 n3 d3 g G4 d4 A n _ HK6.out.ksl HS6.out HP6.out Hk.out hl2 (by have := Hgl.out; have := HS6.out.len; omega) Hb2.out Hm.out HT.out).mono ?_
      rintro e w7 ⟨rfl, hb7⟩
      have HK7 := Lib.hid (HK6.out.later hb7)
      clear hb7 HK6 HS6 HP6
      go_wp2_with fail
      refine (works_any _).mono ?_
      rintro e w8 ⟨rfl, hb8⟩
      have HB := Lib.hid (HK7.out.later hb8).bel
      clear hb8
      go_wp2
      go_ret
      exact ⟨rfl, HB.out⟩
    · have d1 : (a != v) = true := by simpa using hav
      clear hav HTg HTc
      go_wp2_with fail
      refine (works_any _).mono ?_
      rintro e w8 ⟨rfl, hb8⟩
      have HB := Lib.hid (HK6.out.later hb8).bel
      clear hb8
      go_wp2
      go_ret
      exact ⟨rfl, HB.out⟩
end Go.Proofs.Ytjmphmnimnbgkaa
