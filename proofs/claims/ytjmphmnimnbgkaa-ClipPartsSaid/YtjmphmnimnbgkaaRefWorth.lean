/- The document's answers that rest on Behind: what best cuts are worth, and how many there are. -/
import Derived.Test.YtjmphmnimnbgkaaBehind
import Derived.Test.YtjmphmnimnbgkaaAll
namespace Go.Proofs.Ytjmphmnimnbgkaa
open Go.RowKit Go.Shelf

theorem refAt_A {L : Nat} {F : Nat → Int} {ks : List Kd} (hk : KOk ks) : (refAt L F ks L).1 = behindAt L F ks L := refAt_worth hk L

section
variable (L : Nat) (FA : Option Addr) (fn fc : Nat) (fs : List Int) (KA : Option Addr) (kc : Nat) (ks : List Kd) (w : World) (hfs : Sl 1 encI w w.heap.size FA fn fc fs) (hks : Sl 3 encK w w.heap.size KA ks.length kc ks)
include hfs hks
theorem worthOf_any (hL1 : 1 ≤ L) (hL2 : L ≤ 24) (hko : KOk ks) :
    Calls Try.prog 63 #[.agg #[.int .i64 L, .slice FA fn fc], .slice KA ks.length kc] w fun e w' => e = .returned (.int .i64 (behindAt L (Fst fs L) ks L 0)) ∧ Below w.heap.size w w' := by
  have hB0 := balloc (brefl w) (.cells #[.int .i64 L, .slice FA fn fc] 24)
  have Hbe := Lib.hid (behind_any L FA fn fc fs KA kc ks _ (hfs.later hB0) (hks.later hB0) hL1 hL2 hko)
  have HB0 := Lib.hid hB0
  have Hk := Lib.hid hko
  clear hfs hks hB0 hko
  obtain ⟨v, hv⟩ : ∃ v, behindAt L (Fst fs L) ks L 0 = v := ⟨_, rfl⟩
  rw [hv]
  have Hv := Lib.hid hv
  clear hv
  go_enter Try.func63, Try.ntmps63
  go_wp2_with fail
  refine Hbe.out.mono ?_
  rintro e w1 ⟨g1, g2, rfl, hS⟩
  have hn := hS.num1 (j := 0) (by omega)
  rw [refAt_A Hk.out, Hv.out] at hn
  have z1 := hS.b1.lt
  have HB := Lib.hid (Below.later HB0.out hS.bel)
  clear hS Hbe
  go_wp2
  go_ret
  exact ⟨rfl, HB.out⟩

end
theorem refWorth_bad (L : Int) (FA : Option Addr) (fn fc : Nat) (fs : List Int) (KA : Option Addr) (kc : Nat) (ks : List Kd) (w : World) (hfs : Sl 1 encI w w.heap.size FA fn fc fs) (hks : Sl 3 encK w w.heap.size KA ks.length kc ks) (hne : rkE L fs ks ≠ 0) :
    Calls Try.prog 25 #[.agg #[.int .i64 L, .slice FA fn fc], .slice KA ks.length kc] w fun e w' => e = .returned (.tuple #[.int .i64 0, .int .i64 (rkE L fs ks)]) ∧ Below w.heap.size w w' := by
  have hB0 := balloc (brefl w) (.cells #[.int .i64 L, .slice FA fn fc] 24)
  have hbo := Lib.hid (fun W hb => both_any L FA fn fc fs KA kc ks W (hfs.later (w' := W) hb) (hks.later hb))
  have hb0 := Blk.new w 24 #[.int .i64 L, .slice FA fn fc]
  obtain ⟨W, hW⟩ : ∃ W, w.alloc (.cells #[.int .i64 L, .slice FA fn fc] 24) = W := ⟨_, rfl⟩
  rw [hW] at hB0 hb0
  have HB0 := Lib.hid hB0
  have Hcell := Lib.hid (show ∀ W', Below W.heap.size W W' → W'.cell? ⟨w.heap.size, 0, none⟩ = some (.int .i64 L) ∧ W'.cell? ⟨w.heap.size, 1, none⟩ = some (.slice FA fn fc) ∧ w.heap.size < W'.heap.size from fun W' hb => ⟨(hb0.later hb).cell 0, (hb0.later hb).cell 1, (hb0.later hb).lt⟩)
  clear hfs hks hB0 hb0
  obtain ⟨c0, c1, c2⟩ := Hcell.out W (brefl W)
  generalize rkE L fs ks = re at *
  have hn3 : (re != 0) = true := by simpa using hne
  clear hne
  go_enter Try.func25, Try.ntmps25
  go_wp2_with fail
  clear hW
  refine (hbo.out _ HB0.out).mono ?_
  rintro e w1 ⟨rfl, hb1⟩
  obtain ⟨d0, d1, d2⟩ := Hcell.out w1 hb1
  have HB1 := Lib.hid (Below.later HB0.out hb1)
  clear hb1
  go_wp2_with fail
  refine (hbo.out _ HB1.out).mono ?_
  rintro e w2 ⟨rfl, hb2⟩
  have HB2 := Lib.hid (Below.later HB1.out hb2)
  clear hb2
  go_wp2
  go_ret2
  exact ⟨rfl, HB2.out⟩
theorem refCount_bad (L : Int) (FA : Option Addr) (fn fc : Nat) (fs : List Int) (KA : Option Addr) (kc : Nat) (ks : List Kd) (w : World) (hfs : Sl 1 encI w w.heap.size FA fn fc fs) (hks : Sl 3 encK w w.heap.size KA ks.length kc ks) (hne : rkE L fs ks ≠ 0) :
    Calls Try.prog 29 #[.agg #[.int .i64 L, .slice FA fn fc], .slice KA ks.length kc] w fun e w' => e = .returned (.tuple #[.int .i64 0, .int .i64 (rkE L fs ks)]) ∧ Below w.heap.size w w' := by
  have hB0 := balloc (brefl w) (.cells #[.int .i64 L, .slice FA fn fc] 24)
  have hbo := Lib.hid (fun W hb => both_any L FA fn fc fs KA kc ks W (hfs.later (w' := W) hb) (hks.later hb))
  have hb0 := Blk.new w 24 #[.int .i64 L, .slice FA fn fc]
  obtain ⟨W, hW⟩ : ∃ W, w.alloc (.cells #[.int .i64 L, .slice FA fn fc] 24) = W := ⟨_, rfl⟩
  rw [hW] at hB0 hb0
  have HB0 := Lib.hid hB0
  have Hcell := Lib.hid (show ∀ W', Below W.heap.size W W' → W'.cell? ⟨w.heap.size, 0, none⟩ = some (.int .i64 L) ∧ W'.cell? ⟨w.heap.size, 1, none⟩ = some (.slice FA fn fc) ∧ w.heap.size < W'.heap.size from fun W' hb => ⟨(hb0.later hb).cell 0, (hb0.later hb).cell 1, (hb0.later hb).lt⟩)
  clear hfs hks hB0 hb0
  obtain ⟨c0, c1, c2⟩ := Hcell.out W (brefl W)
  generalize rkE L fs ks = re at *
  have hn3 : (re != 0) = true := by simpa using hne
  clear hne
  go_enter Try.func29, Try.ntmps29
  go_wp2_with fail
  clear hW
  refine (hbo.out _ HB0.out).mono ?_
  rintro e w1 ⟨rfl, hb1⟩
  obtain ⟨d0, d1, d2⟩ := Hcell.out w1 hb1
  have HB1 := Lib.hid (Below.later HB0.out hb1)
  clear hb1
  go_wp2_with fail
  refine (hbo.out _ HB1.out).mono ?_
  rintro e w2 ⟨rfl, hb2⟩
  have HB2 := Lib.hid (Below.later HB1.out hb2)
  clear hb2
  go_wp2
  go_ret2
  exact ⟨rfl, HB2.out⟩
theorem refFirst_bad (L : Int) (FA : Option Addr) (fn fc : Nat) (fs : List Int) (KA : Option Addr) (kc : Nat) (ks : List Kd) (w : World) (hfs : Sl 1 encI w w.heap.size FA fn fc fs) (hks : Sl 3 encK w w.heap.size KA ks.length kc ks) (hne : rkE L fs ks ≠ 0) :
    Calls Try.prog 27 #[.agg #[.int .i64 L, .slice FA fn fc], .slice KA ks.length kc] w fun e w' => e = .returned (.tuple #[.slice none 0 0, .int .i64 (rkE L fs ks)]) ∧ Below w.heap.size w w' := by
  have hB0 := balloc (brefl w) (.cells #[.int .i64 L, .slice FA fn fc] 24)
  have hbo := Lib.hid (fun W hb => both_any L FA fn fc fs KA kc ks W (hfs.later (w' := W) hb) (hks.later hb))
  have hb0 := Blk.new w 24 #[.int .i64 L, .slice FA fn fc]
  obtain ⟨W, hW⟩ : ∃ W, w.alloc (.cells #[.int .i64 L, .slice FA fn fc] 24) = W := ⟨_, rfl⟩
  rw [hW] at hB0 hb0
  have HB0 := Lib.hid hB0
  have Hcell := Lib.hid (show ∀ W', Below W.heap.size W W' → W'.cell? ⟨w.heap.size, 0, none⟩ = some (.int .i64 L) ∧ W'.cell? ⟨w.heap.size, 1, none⟩ = some (.slice FA fn fc) ∧ w.heap.size < W'.heap.size from fun W' hb => ⟨(hb0.later hb).cell 0, (hb0.later hb).cell 1, (hb0.later hb).lt⟩)
  clear hfs hks hB0 hb0
  obtain ⟨c0, c1, c2⟩ := Hcell.out W (brefl W)
  generalize rkE L fs ks = re at *
  have hn3 : (re != 0) = true := by simpa using hne
  clear hne
  go_enter Try.func27, Try.ntmps27
  go_wp2_with fail
  clear hW
  refine (hbo.out _ HB0.out).mono ?_
  rintro e w1 ⟨rfl, hb1⟩
  obtain ⟨d0, d1, d2⟩ := Hcell.out w1 hb1
  have HB1 := Lib.hid (Below.later HB0.out hb1)
  clear hb1
  go_wp2_with fail
  refine (hbo.out _ HB1.out).mono ?_
  rintro e w2 ⟨rfl, hb2⟩
  have HB2 := Lib.hid (Below.later HB1.out hb2)
  clear hb2
  go_wp2
  go_ret2
  exact ⟨rfl, HB2.out⟩

structure RW (w W : World) (L : Int) (FA : Option Addr) (fn fc : Nat) (fs : List Int) (KA : Option Addr) (kc : Nat) (ks : List Kd) : Prop where
  bel : Below w.heap.size w W
  fsl : Sl 1 encI W W.heap.size FA fn fc fs
  ksl : Sl 3 encK W W.heap.size KA ks.length kc ks
  b0 : Blk W w.heap.size 24 #[.int .i64 L, .slice FA fn fc]
theorem RW.later {w W W' : World} {L : Int} {FA : Option Addr} {fn fc : Nat} {fs : List Int} {KA : Option Addr} {kc : Nat} {ks : List Kd} (h : RW w W L FA fn fc fs KA kc ks) (hb : Below W.heap.size W W') : RW w W' L FA fn fc fs KA kc ks :=
  ⟨Below.later h.bel hb, h.fsl.later hb, h.ksl.later hb, h.b0.later hb⟩
theorem RW.new {w : World} {L : Int} {FA : Option Addr} {fn fc : Nat} {fs : List Int} {KA : Option Addr} {kc : Nat} {ks : List Kd} (hfs : Sl 1 encI w w.heap.size FA fn fc fs) (hks : Sl 3 encK w w.heap.size KA ks.length kc ks) : RW w (w.alloc (.cells #[.int .i64 L, .slice FA fn fc] 24)) L FA fn fc fs KA kc ks :=
  ⟨balloc (brefl w) _, hfs.later (balloc (brefl w) _), hks.later (balloc (brefl w) _), Blk.new w _ _⟩

section
variable (L : Nat) (FA : Option Addr) (fn fc : Nat) (fs : List Int) (KA : Option Addr) (kc : Nat) (ks : List Kd) (w : World) (hfs : Sl 1 encI w w.heap.size FA fn fc fs) (hks : Sl 3 encK w w.heap.size KA ks.length kc ks) (he : rkE L fs ks = 0)
include hfs hks he
theorem refWorth_ok : Calls Try.prog 25 #[.agg #[.int .i64 L, .slice FA fn fc], .slice KA ks.length kc] w fun e w' => e = .returned (.tuple #[.int .i64 (behindAt L (Fst fs L) ks L 0), .int .i64 0]) ∧ Below w.heap.size w w' := by
  obtain ⟨n, hn, hl1, hl2, hko⟩ := valid_nat he
  have hn := Int.ofNat.inj hn
  subst hn
  have hR := RW.new (L := L) hfs hks
  obtain ⟨W, hW⟩ : ∃ W, w.alloc (.cells #[.int .i64 L, .slice FA fn fc] 24) = W := ⟨_, rfl⟩
  rw [hW] at hR
  have hbo := Lib.hid (both_any L FA fn fc fs KA kc ks W hR.fsl hR.ksl)
  rw [he] at hbo
  have HR := Lib.hid hR
  have Hk := Lib.hid hko
  have c0 := hR.b0.cell 0
  have c1 := hR.b0.cell 1
  have c2 := hR.b0.lt
  clear hfs hks hR hko he
  go_enter Try.func25, Try.ntmps25
  go_wp2_with fail
  clear hW
  refine hbo.out.mono ?_
  rintro e w1 ⟨rfl, hb1⟩
  have hR1 := HR.out.later hb1
  have Hbe := Lib.hid (worthOf_any L FA fn fc fs KA kc ks w1 hR1.fsl hR1.ksl hl1 hl2 Hk.out)
  have c0 := hR1.b0.cell 0
  have c1 := hR1.b0.cell 1
  have c2 := hR1.b0.lt
  have HR1 := Lib.hid hR1
  clear hb1 HR hbo hR1
  go_wp2_with fail
  refine Hbe.out.mono ?_
  rintro e w2 ⟨rfl, hb2⟩
  have HB := Lib.hid (HR1.out.later hb2).bel
  clear hb2
  go_wp2
  go_ret2
  exact ⟨rfl, HB.out⟩
theorem refCount_ok : Calls Try.prog 29 #[.agg #[.int .i64 L, .slice FA fn fc], .slice KA ks.length kc] w fun e w' => e = .returned (.tuple #[.int .i64 (manyAt L (Fst fs L) ks (behindAt L (Fst fs L) ks L) L 0), .int .i64 0]) ∧ Below w.heap.size w w' := by
  obtain ⟨n, hn, hl1, hl2, hko⟩ := valid_nat he
  have hn := Int.ofNat.inj hn
  subst hn
  have hR := RW.new (L := L) hfs hks
  obtain ⟨W, hW⟩ : ∃ W, w.alloc (.cells #[.int .i64 L, .slice FA fn fc] 24) = W := ⟨_, rfl⟩
  rw [hW] at hR
  have hbo := Lib.hid (both_any L FA fn fc fs KA kc ks W hR.fsl hR.ksl)
  rw [he] at hbo
  have HR := Lib.hid hR
  have Hk := Lib.hid hko
  have c0 := hR.b0.cell 0
  have c1 := hR.b0.cell 1
  have c2 := hR.b0.lt
  clear hfs hks hR hko he
  obtain ⟨v, hv⟩ : ∃ v, manyAt L (Fst fs L) ks (behindAt L (Fst fs L) ks L) L 0 = v := ⟨_, rfl⟩
  rw [hv]
  have Hv := Lib.hid hv
  clear hv
  go_enter Try.func29, Try.ntmps29
  go_wp2_with fail
  clear hW
  refine hbo.out.mono ?_
  rintro e w1 ⟨rfl, hb1⟩
  have hR1 := HR.out.later hb1
  have Hbe := Lib.hid (behind_any L FA fn fc fs KA kc ks w1 hR1.fsl hR1.ksl hl1 hl2 Hk.out)
  have c0 := hR1.b0.cell 0
  have c1 := hR1.b0.cell 1
  have c2 := hR1.b0.lt
  have HR1 := Lib.hid hR1
  clear hb1 HR hbo hR1
  go_wp2_with fail
  refine Hbe.out.mono ?_
  rintro e w2 ⟨g1, g2, rfl, hS⟩
  have hn := hS.num2 (j := 0) (by omega)
  rw [ref_many0 Hk.out, Hv.out] at hn
  have z1 := hS.b2.lt
  have HB := Lib.hid (HR1.out.later hS.bel).bel
  clear hS Hbe
  go_wp2
  go_ret2
  exact ⟨rfl, HB.out⟩
end
end Go.Proofs.Ytjmphmnimnbgkaa
