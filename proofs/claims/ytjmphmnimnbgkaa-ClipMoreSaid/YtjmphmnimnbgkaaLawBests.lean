/- The document's Worth, Count and first best cuts; the walk of ClipBests. -/
import Derived.Test.YtjmphmnimnbgkaaBehind
import Derived.Test.YtjmphmnimnbgkaaAll
import Derived.Test.YtjmphmnimnbgkaaPath
import Derived.Test.YtjmphmnimnbgkaaBad
import Derived.Test.YtjmphmnimnbgkaaPrices
import Derived.Test.YtjmphmnimnbgkaaSheetsEq
namespace Go.Proofs.Ytjmphmnimnbgkaa
open Go.RowKit Go.Shelf

theorem refAt_A {L : Nat} {F : Nat → Int} {ks : List Kd} (hk : KOk ks) : (refAt L F ks L).1 = behindAt L F ks L := refAt_worth hk L

section
variable (L : Nat) (FA : Option Addr) (fn fc : Nat) (fs : List Int) (KA : Option Addr) (kc : Nat) (ks : List Kd) (w : World) (hfs : Sl 1 encI w w.heap.size FA fn fc fs) (hks : Sl 3 encK w w.heap.size KA ks.length kc ks)
include hfs hks
theorem worthOf_any (hL1 : 1 ≤ L) (hL2 : L ≤ 24) (hko : KOk ks) :
    Calls Try.prog 63 #[.agg #[.int .i64 L, .slice FA fn fc], .slice KA ks.length kc] w fun e w' => e = .returned (.int .i64 (behindAt L (Fst fs L) ks L 0)) ∧ Below w.heap.size w w' := by
  have hB0 := balloc (brefl w) (.cells #[.int .i64 L, .slice FA fn fc] 24)
  have Hbe := Lib.hid (behind_any L FA fn fc fs KA kc ks _ (hfs.later hB0) (hks.later hB0) hL1 hL2 hko)
  have HB0 := Lib.hid hB0
  have Hk := Lib.hid hko
  clear hfs hks hB0 hko
  obtain ⟨v, hv⟩ : ∃ v, behindAt L (Fst fs L) ks L 0 = v := ⟨_, rfl⟩
  rw [hv]
  have Hv := Lib.hid hv
  clear hv
  go_enter Try.func63, Try.ntmps63
  go_wp2_with fail
  refine Hbe.out.mono ?_
  rintro e w1 ⟨g1, g2, rfl, hS⟩
  have hn := hS.num1 (j := 0) (by omega)
  rw [refAt_A Hk.out, Hv.out] at hn
  have z1 := hS.b1.lt
  have HB := Lib.hid (Below.later HB0.out hS.bel)
  clear hS Hbe
  go_wp2
  go_ret
  exact ⟨rfl, HB.out⟩

end
theorem refWorth_bad (L : Int) (FA : Option Addr) (fn fc : Nat) (fs : List Int) (KA : Option Addr) (kc : Nat) (ks : List Kd) (w : World) (hfs : Sl 1 encI w w.heap.size FA fn fc fs) (hks : Sl 3 encK w w.heap.size KA ks.length kc ks) (hne : rkE L fs ks ≠ 0) :
    Calls Try.prog 25 #[.agg #[.int .i64 L, .slice FA fn fc], .slice KA ks.length kc] w fun e w' => e = .returned (.tuple #[.int .i64 0, .int .i64 (rkE L fs ks)]) ∧ Below w.heap.size w w' := by
  have hB0 := balloc (brefl w) (.cells #[.int .i64 L, .slice FA fn fc] 24)
  have hbo := Lib.hid (fun W hb => both_any L FA fn fc fs KA kc ks W (hfs.later (w' := W) hb) (hks.later hb))
  have hb0 := Blk.new w 24 #[.int .i64 L, .slice FA fn fc]
  obtain ⟨W, hW⟩ : ∃ W, w.alloc (.cells #[.int .i64 L, .slice FA fn fc] 24) = W := ⟨_, rfl⟩
  rw [hW] at hB0 hb0
  have HB0 := Lib.hid hB0
  have Hcell := Lib.hid (show ∀ W', Below W.heap.size W W' → W'.cell? ⟨w.heap.size, 0, none⟩ = some (.int .i64 L) ∧ W'.cell? ⟨w.heap.size, 1, none⟩ = some (.slice FA fn fc) ∧ w.heap.size < W'.heap.size from fun W' hb => ⟨(hb0.later hb).cell 0, (hb0.later hb).cell 1, (hb0.later hb).lt⟩)
  clear hfs hks hB0 hb0
  obtain ⟨c0, c1, c2⟩ := Hcell.out W (brefl W)
  generalize rkE L fs ks = re at *
  have hn3 : (re != 0) = true := by simpa using hne
  clear hne
  go_enter Try.func25, Try.ntmps25
  go_wp2_with fail
  clear hW
  refine (hbo.out _ HB0.out).mono ?_
  rintro e w1 ⟨rfl, hb1⟩
  obtain ⟨d0, d1, d2⟩ := Hcell.out w1 hb1
  have HB1 := Lib.hid (Below.later HB0.out hb1)
  clear hb1
  go_wp2_with fail
  refine (hbo.out _ HB1.out).mono ?_
  rintro e w2 ⟨rfl, hb2⟩
  have HB2 := Lib.hid (Below.later HB1.out hb2)
  clear hb2
  go_wp2
  go_ret2
  exact ⟨rfl, HB2.out⟩
theorem refCount_bad (L : Int) (FA : Option Addr) (fn fc : Nat) (fs : List Int) (KA : Option Addr) (kc : Nat) (ks : List Kd) (w : World) (hfs : Sl 1 encI w w.heap.size FA fn fc fs) (hks : Sl 3 encK w w.heap.size KA ks.length kc ks) (hne : rkE L fs ks ≠ 0) :
    Calls Try.prog 29 #[.agg #[.int .i64 L, .slice FA fn fc], .slice KA ks.length kc] w fun e w' => e = .returned (.tuple #[.int .i64 0, .int .i64 (rkE L fs ks)]) ∧ Below w.heap.size w w' := by
  have hB0 := balloc (brefl w) (.cells #[.int .i64 L, .slice FA fn fc] 24)
  have hbo := Lib.hid (fun W hb => both_any L FA fn fc fs KA kc ks W (hfs.later (w' := W) hb) (hks.later hb))
  have hb0 := Blk.new w 24 #[.int .i64 L, .slice FA fn fc]
  obtain ⟨W, hW⟩ : ∃ W, w.alloc (.cells #[.int .i64 L, .slice FA fn fc] 24) = W := ⟨_, rfl⟩
  rw [hW] at hB0 hb0
  have HB0 := Lib.hid hB0
  have Hcell := Lib.hid (show ∀ W', Below W.heap.size W W' → W'.cell? ⟨w.heap.size, 0, none⟩ = some (.int .i64 L) ∧ W'.cell? ⟨w.heap.size, 1, none⟩ = some (.slice FA fn fc) ∧ w.heap.size < W'.heap.size from fun W' hb => ⟨(hb0.later hb).cell 0, (hb0.later hb).cell 1, (hb0.later hb).lt⟩)
  clear hfs hks hB0 hb0
  obtain ⟨c0, c1, c2⟩ := Hcell.out W (brefl W)
  generalize rkE L fs ks = re at *
  have hn3 : (re != 0) = true := by simpa using hne
  clear hne
  go_enter Try.func29, Try.ntmps29
  go_wp2_with fail
  clear hW
  refine (hbo.out _ HB0.out).mono ?_
  rintro e w1 ⟨rfl, hb1⟩
  obtain ⟨d0, d1, d2⟩ := Hcell.out w1 hb1
  have HB1 := Lib.hid (Below.later HB0.out hb1)
  clear hb1
  go_wp2_with fail
  refine (hbo.out _ HB1.out).mono ?_
  rintro e w2 ⟨rfl, hb2⟩
  have HB2 := Lib.hid (Below.later HB1.out hb2)
  clear hb2
  go_wp2
  go_ret2
  exact ⟨rfl, HB2.out⟩
theorem refFirst_bad (L : Int) (FA : Option Addr) (fn fc : Nat) (fs : List Int) (KA : Option Addr) (kc : Nat) (ks : List Kd) (w : World) (hfs : Sl 1 encI w w.heap.size FA fn fc fs) (hks : Sl 3 encK w w.heap.size KA ks.length kc ks) (hne : rkE L fs ks ≠ 0) :
    Calls Try.prog 27 #[.agg #[.int .i64 L, .slice FA fn fc], .slice KA ks.length kc] w fun e w' => e = .returned (.tuple #[.slice none 0 0, .int .i64 (rkE L fs ks)]) ∧ Below w.heap.size w w' := by
  have hB0 := balloc (brefl w) (.cells #[.int .i64 L, .slice FA fn fc] 24)
  have hbo := Lib.hid (fun W hb => both_any L FA fn fc fs KA kc ks W (hfs.later (w' := W) hb) (hks.later hb))
  have hb0 := Blk.new w 24 #[.int .i64 L, .slice FA fn fc]
  obtain ⟨W, hW⟩ : ∃ W, w.alloc (.cells #[.int .i64 L, .slice FA fn fc] 24) = W := ⟨_, rfl⟩
  rw [hW] at hB0 hb0
  have HB0 := Lib.hid hB0
  have Hcell := Lib.hid (show ∀ W', Below W.heap.size W W' → W'.cell? ⟨w.heap.size, 0, none⟩ = some (.int .i64 L) ∧ W'.cell? ⟨w.heap.size, 1, none⟩ = some (.slice FA fn fc) ∧ w.heap.size < W'.heap.size from fun W' hb => ⟨(hb0.later hb).cell 0, (hb0.later hb).cell 1, (hb0.later hb).lt⟩)
  clear hfs hks hB0 hb0
  obtain ⟨c0, c1, c2⟩ := Hcell.out W (brefl W)
  generalize rkE L fs ks = re at *
  have hn3 : (re != 0) = true := by simpa using hne
  clear hne
  go_enter Try.func27, Try.ntmps27
  go_wp2_with fail
  clear hW
  refine (hbo.out _ HB0.out).mono ?_
  rintro e w1 ⟨rfl, hb1⟩
  obtain ⟨d0, d1, d2⟩ := Hcell.out w1 hb1
  have HB1 := Lib.hid (Below.later HB0.out hb1)
  clear hb1
  go_wp2_with fail
  refine (hbo.out _ HB1.out).mono ?_
  rintro e w2 ⟨rfl, hb2⟩
  have HB2 := Lib.hid (Below.later HB1.out hb2)
  clear hb2
  go_wp2
  go_ret2
  exact ⟨rfl, HB2.out⟩

structure RW (w W : World) (L : Int) (FA : Option Addr) (fn fc : Nat) (fs : List Int) (KA : Option Addr) (kc : Nat) (ks : List Kd) : Prop where
  bel : Below w.heap.size w W
  fsl : Sl 1 encI W W.heap.size FA fn fc fs
  ksl : Sl 3 encK W W.heap.size KA ks.length kc ks
  b0 : Blk W w.heap.size 24 #[.int .i64 L, .slice FA fn fc]
theorem RW.later {w W W' : World} {L : Int} {FA : Option Addr} {fn fc : Nat} {fs : List Int} {KA : Option Addr} {kc : Nat} {ks : List Kd} (h : RW w W L FA fn fc fs KA kc ks) (hb : Below W.heap.size W W') : RW w W' L FA fn fc fs KA kc ks :=
  ⟨Below.later h.bel hb, h.fsl.later hb, h.ksl.later hb, h.b0.later hb⟩
theorem RW.new {w : World} {L : Int} {FA : Option Addr} {fn fc : Nat} {fs : List Int} {KA : Option Addr} {kc : Nat} {ks : List Kd} (hfs : Sl 1 encI w w.heap.size FA fn fc fs) (hks : Sl 3 encK w w.heap.size KA ks.length kc ks) : RW w (w.alloc (.cells #[.int .i64 L, .slice FA fn fc] 24)) L FA fn fc fs KA kc ks :=
  ⟨balloc (brefl w) _, hfs.later (balloc (brefl w) _), hks.later (balloc (brefl w) _), Blk.new w _ _⟩

section
variable (L : Nat) (FA : Option Addr) (fn fc : Nat) (fs : List Int) (KA : Option Addr) (kc : Nat) (ks : List Kd) (w : World) (hfs : Sl 1 encI w w.heap.size FA fn fc fs) (hks : Sl 3 encK w w.heap.size KA ks.length kc ks) (he : rkE L fs ks = 0)
include hfs hks he
theorem refWorth_ok : Calls Try.prog 25 #[.agg #[.int .i64 L, .slice FA fn fc], .slice KA ks.length kc] w fun e w' => e = .returned (.tuple #[.int .i64 (behindAt L (Fst fs L) ks L 0), .int .i64 0]) ∧ Below w.heap.size w w' := by
  obtain ⟨n, hn, hl1, hl2, hko⟩ := valid_nat he
  have hn := Int.ofNat.inj hn
  subst hn
  have hR := RW.new (L := L) hfs hks
  obtain ⟨W, hW⟩ : ∃ W, w.alloc (.cells #[.int .i64 L, .slice FA fn fc] 24) = W := ⟨_, rfl⟩
  rw [hW] at hR
  have hbo := Lib.hid (both_any L FA fn fc fs KA kc ks W hR.fsl hR.ksl)
  rw [he] at hbo
  have HR := Lib.hid hR
  have Hk := Lib.hid hko
  have c0 := hR.b0.cell 0
  have c1 := hR.b0.cell 1
  have c2 := hR.b0.lt
  clear hfs hks hR hko he
  go_enter Try.func25, Try.ntmps25
  go_wp2_with fail
  clear hW
  refine hbo.out.mono ?_
  rintro e w1 ⟨rfl, hb1⟩
  have hR1 := HR.out.later hb1
  have Hbe := Lib.hid (worthOf_any L FA fn fc fs KA kc ks w1 hR1.fsl hR1.ksl hl1 hl2 Hk.out)
  have c0 := hR1.b0.cell 0
  have c1 := hR1.b0.cell 1
  have c2 := hR1.b0.lt
  have HR1 := Lib.hid hR1
  clear hb1 HR hbo hR1
  go_wp2_with fail
  refine Hbe.out.mono ?_
  rintro e w2 ⟨rfl, hb2⟩
  have HB := Lib.hid (HR1.out.later hb2).bel
  clear hb2
  go_wp2
  go_ret2
  exact ⟨rfl, HB.out⟩
theorem refCount_ok : Calls Try.prog 29 #[.agg #[.int .i64 L, .slice FA fn fc], .slice KA ks.length kc] w fun e w' => e = .returned (.tuple #[.int .i64 (manyAt L (Fst fs L) ks (behindAt L (Fst fs L) ks L) L 0), .int .i64 0]) ∧ Below w.heap.size w w' := by
  obtain ⟨n, hn, hl1, hl2, hko⟩ := valid_nat he
  have hn := Int.ofNat.inj hn
  subst hn
  have hR := RW.new (L := L) hfs hks
  obtain ⟨W, hW⟩ : ∃ W, w.alloc (.cells #[.int .i64 L, .slice FA fn fc] 24) = W := ⟨_, rfl⟩
  rw [hW] at hR
  have hbo := Lib.hid (both_any L FA fn fc fs KA kc ks W hR.fsl hR.ksl)
  rw [he] at hbo
  have HR := Lib.hid hR
  have Hk := Lib.hid hko
  have c0 := hR.b0.cell 0
  have c1 := hR.b0.cell 1
  have c2 := hR.b0.lt
  clear hfs hks hR hko he
  obtain ⟨v, hv⟩ : ∃ v, manyAt L (Fst fs L) ks (behindAt L (Fst fs L) ks L) L 0 = v := ⟨_, rfl⟩
  rw [hv]
  have Hv := Lib.hid hv
  clear hv
  go_enter Try.func29, Try.ntmps29
  go_wp2_with fail
  clear hW
  refine hbo.out.mono ?_
  rintro e w1 ⟨rfl, hb1⟩
  have hR1 := HR.out.later hb1
  have Hbe := Lib.hid (behind_any L FA fn fc fs KA kc ks w1 hR1.fsl hR1.ksl hl1 hl2 Hk.out)
  have c0 := hR1.b0.cell 0
  have c1 := hR1.b0.cell 1
  have c2 := hR1.b0.lt
  have HR1 := Lib.hid hR1
  clear hb1 HR hbo hR1
  go_wp2_with fail
  refine Hbe.out.mono ?_
  rintro e w2 ⟨g1, g2, rfl, hS⟩
  have hn := hS.num2 (j := 0) (by omega)
  rw [ref_many0 Hk.out, Hv.out] at hn
  have z1 := hS.b2.lt
  have HB := Lib.hid (HR1.out.later hS.bel).bel
  clear hS Hbe
  go_wp2
  go_ret2
  exact ⟨rfl, HB.out⟩
end

/-! ### The last kind that serves, sought from behind, is the first one -/
def pB (L : Nat) (F : Nat → Int) (ks : List Kd) (Bh : Nat → Int) (i k : Nat) : Bool := canI L F ks i k && tieB ks Bh i k
theorem find_none {K : Nat} {c t : Nat → Bool} (h : ∀ j, j < K → (c j && t j) = false) : ((List.range K).filter c).find? t = none := by
  rw [List.find?_filter, List.find?_eq_none]
  intro j hj
  have := h j (List.mem_range.1 hj)
  simp at this ⊢
  exact this
theorem find_some {K j : Nat} {c t : Nat → Bool} (hj : j < K) (h1 : (c j && t j) = true) (h2 : ∀ j', j' < j → (c j' && t j') = false) : ((List.range K).filter c).find? t = some j := by
  rw [List.find?_filter, List.find?_range_eq_some]
  refine ⟨by simpa using h1, List.mem_range.2 hj, fun j' hj' => ?_⟩
  have := h2 j' hj'
  cases h3 : c j' <;> cases h4 : t j' <;> simp_all
/-- What is held while kinds are looked at from behind: all from place a on are done. -/
def HeldB (p : Nat → Bool) (K a : Nat) (b : Int) : Prop := (b = -1 ∧ ∀ j, a ≤ j → j < K → p j = false) ∨ ∃ j : Nat, b = j ∧ a ≤ j ∧ j < K ∧ p j = true ∧ ∀ j', a ≤ j' → j' < j → p j' = false
theorem HeldB.no {p : Nat → Bool} {K a : Nat} {b : Int} (h : HeldB p K (a + 1) b) (hp : p a = false) : HeldB p K a b := by
  rcases h with ⟨h1, h2⟩ | ⟨j, h1, h2, h3, h4, h5⟩
  · exact .inl ⟨h1, fun j hj hjK => by by_cases e : j = a; subst e; exact hp; exact h2 j (by omega) hjK⟩
  · exact .inr ⟨j, h1, by omega, h3, h4, fun j' hj' hjj => by by_cases e : j' = a; subst e; exact hp; exact h5 j' (by omega) hjj⟩
theorem HeldB.yes {p : Nat → Bool} {K a : Nat} (ha : a < K) (hp : p a = true) : HeldB p K a (a : Nat) := .inr ⟨a, rfl, Nat.le_refl _, ha, hp, fun j' h1 h2 => by omega⟩

structure FW (w W : World) (L : Nat) (FA : Option Addr) (fn fc g1 : Nat) (A : Nat → Int) (v : Value) (xs : List Sh) : Prop where
  bel : Below w.heap.size w W
  b0 : Blk W w.heap.size 24 #[.int .i64 L, .slice FA fn fc]
  b1 : Blk W g1 2 (numArr (L + 1) A)
  own : W.ownsRow w.heap.size 56 2 v xs.length (xs.flatMap encS)
section
variable {w W W' : World} {L : Nat} {FA : Option Addr} {fn fc g1 : Nat} {A : Nat → Int} {v : Value} {xs : List Sh}
theorem FW.later (h : FW w W L FA fn fc g1 A v xs) (hb : Below W.heap.size W W') : FW w W' L FA fn fc g1 A v xs := ⟨Below.later h.bel hb, h.b0.later hb, h.b1.later hb, own_later h.own hb⟩
theorem FW.grown {v' : Value} (h : FW w W L FA fn fc g1 A v xs) (x : Sh) (hg : W.grownBy W' v.ownBlock) (ho : W'.ownsRow w.heap.size 56 2 v' (xs.length + 1) (xs.flatMap encS ++ encS x)) : FW w W' L FA fn fc g1 A v' (xs ++ [x]) := by
  have hrow : ∀ k, v.ownBlock = some k → w.heap.size ≤ k := fun k hk => (h.own.lt k hk).1
  refine ⟨h.bel.trans ⟨hg.os, hg.tape, hg.output, hg.size, fun i hi => hg.block i (by have := h.bel.size; omega) (fun e => by have := hrow i e.symm; omega)⟩, h.b0.grown hg (h.b0.notRow h.own (by decide)), h.b1.grown hg (h.b1.notRow h.own (by decide)), ?_⟩
  simpa [List.flatMap_append] using ho
theorem FW.num (h : FW w W L FA fn fc g1 A v xs) {j : Nat} (hj : j ≤ L) : W.cell? ⟨g1, j, none⟩ = some (.int .i64 (A j)) := by rw [h.b1.cell, numArr_get (by omega)]
end

set_option maxRecDepth 100000 in
set_option maxHeartbeats 4000000 in
theorem refFirst_ok (L : Nat) (FA : Option Addr) (fn fc : Nat) (fs : List Int) (KA : Option Addr) (kc : Nat) (ks : List Kd) (w : World) (hfs : Sl 1 encI w w.heap.size FA fn fc fs) (hks : Sl 3 encK w w.heap.size KA ks.length kc ks) (he : rkE L fs ks = 0) :
    Calls Try.prog 27 #[.agg #[.int .i64 L, .slice FA fn fc], .slice KA ks.length kc] w fun e w' => ∃ v, e = .returned (.tuple #[v, .int .i64 0]) ∧ Below w.heap.size w w' ∧ w'.ownsRow w.heap.size 56 2 v (firstAt L (Fst fs L) ks (behindAt L (Fst fs L) ks L) L 0).length ((firstAt L (Fst fs L) ks (behindAt L (Fst fs L) ks L) L 0).flatMap encS) := by
  obtain ⟨n, hn, hl1, hl2, hko⟩ := valid_nat he
  have hn := Int.ofNat.inj hn
  subst hn
  have hR := RW.new (L := L) hfs hks
  obtain ⟨W, hW⟩ : ∃ W, w.alloc (.cells #[.int .i64 L, .slice FA fn fc] 24) = W := ⟨_, rfl⟩
  rw [hW] at hR
  have hbo := Lib.hid (both_any L FA fn fc fs KA kc ks W hR.fsl hR.ksl)
  rw [he] at hbo
  have HR := Lib.hid hR
  have Hk := Lib.hid hko
  have hkl := hko.2.1
  have c0 := hR.b0.cell 0
  have c1 := hR.b0.cell 1
  have c2 := hR.b0.lt
  have Hfs := Lib.hid hfs
  have Hks := Lib.hid hks
  have hbd := behindAt_bd (L := L) (F := Fst fs L) hko L (Nat.le_refl _)
  obtain ⟨Bh, hBh⟩ : ∃ Bh, behindAt L (Fst fs L) ks L = Bh := ⟨_, rfl⟩
  rw [hBh] at hbd ⊢
  have HBd := Lib.hid hbd
  have HBh := Lib.hid hBh
  clear hfs hks hR hko he hbd hBh
  go_enter Try.func27, Try.ntmps27
  go_wp2_with fail
  clear hW
  refine hbo.out.mono ?_
  rintro e w1 ⟨rfl, hb1⟩
  have hR1 := HR.out.later hb1
  have Hbe := Lib.hid (behind_any L FA fn fc fs KA kc ks w1 hR1.fsl hR1.ksl hl1 hl2 Hk.out)
  have c0 := hR1.b0.cell 0
  have c1 := hR1.b0.cell 1
  have c2 := hR1.b0.lt
  have HR1 := Lib.hid hR1
  clear hb1 HR hbo hR1
  go_wp2_with fail
  refine Hbe.out.mono ?_
  rintro e w2 ⟨g1, g2, rfl, hS⟩
  have hF0 : FW w w2 L FA fn fc g1 Bh (.slice none 0 0) [] := by
    have h1 := hS.b1
    rw [refAt_A Hk.out, HBh.out] at h1
    exact ⟨(HR1.out.later hS.bel).bel, (HR1.out.later hS.bel).b0, h1, World.ownsRow_nil _ _ _ _⟩
  have HF0 := Lib.hid hF0
  have d0 := hF0.b0.cell 0
  have d1 := hF0.b0.lt
  clear hF0 hS Hbe HR1 c0 c1 c2
  clear w1
  go_wp2_with fail
  refine loop_n (fun n a W => a.defers = [] ∧ ∃ (i : Nat) (v : Value) (xs : List Sh), L ≤ i + n ∧ i ≤ L ∧ xs ++ firstAt L (Fst fs L) ks Bh n i = firstAt L (Fst fs L) ks Bh L 0 ∧ FW w W L FA fn fc g1 Bh v xs ∧ Fits (none :: some (.slice KA ks.length kc) :: some (.pointer (some ⟨w.heap.size, 0, none⟩)) :: none :: none :: none :: some (.slice (some ⟨g1, 0, none⟩) (L + 1) (L + 1)) :: none :: some (v) :: some (.int .i64 (i : Nat)) :: none :: none :: none :: none :: none :: none :: none :: none :: none :: none :: none :: none :: none :: none :: none :: none :: none :: none :: none :: none :: none :: none :: none :: none :: none :: none :: none :: none :: none :: none :: none :: none :: none :: none :: none :: none :: none :: none :: none :: none :: none :: none :: none :: none :: none :: none :: none :: none :: none :: none :: none :: none :: none :: none :: none :: none :: none :: none :: none :: none :: none :: none :: none :: none :: none :: none :: none :: none :: none :: none :: none :: none :: none :: none :: none :: []) a.tmps.toList) L ?_ ?_
  · refine ⟨rfl, 0, _, [], by omega, by omega, rfl, HF0.out, ?_⟩
    repeat (first | exact fits_nil | refine fits_none ?_ | refine fits_some ?_)
  clear HF0 d0 d1
  intro n a W hI K hK
  obtain ⟨hds, i, v, xs, hin, hiL, hxs, hS, hfit⟩ := hI
  obtain ⟨f, hf⟩ := fits_act hfit
  rw [hds] at hf
  subst hf
  clear hfit hds
  simp only [fillP, Nat.reduceAdd]
  have c0 := hS.b0.cell 0
  have c2 := hS.b0.lt
  have HS := Lib.hid hS
  have Hxs := Lib.hid hxs
  clear hS hxs
  by_cases hlt : i < L
  · have i1 : (i : Int) < (L : Int) := by omega
    have hn0 : 0 < n := by omega
    go_wp2_with fail
    refine loop_n (fun m a W => a.defers = [] ∧ ∃ (k : Nat) (b : Int), k = m ∧ k ≤ ks.length ∧ HeldB (pB L (Fst fs L) ks Bh i) ks.length k b ∧ FW w W L FA fn fc g1 Bh v xs ∧ Fits (none :: some (.slice KA ks.length kc) :: some (.pointer (some ⟨w.heap.size, 0, none⟩)) :: none :: none :: none :: some (.slice (some ⟨g1, 0, none⟩) (L + 1) (L + 1)) :: none :: some (v) :: some (.int .i64 (i : Nat)) :: some (.int .i64 b) :: some (.int .i64 ((k : Int) - 1)) :: none :: none :: none :: none :: none :: none :: none :: none :: none :: none :: none :: none :: none :: none :: none :: none :: none :: none :: none :: none :: none :: none :: none :: none :: none :: none :: none :: none :: none :: none :: none :: none :: none :: none :: none :: none :: none :: none :: none :: none :: none :: none :: none :: none :: none :: none :: none :: none :: none :: none :: none :: none :: none :: none :: none :: none :: none :: none :: none :: none :: none :: none :: none :: none :: none :: none :: none :: none :: none :: none :: none :: none :: none :: []) a.tmps.toList) ks.length ?_ ?_
    · refine ⟨rfl, ks.length, -1, rfl, Nat.le_refl _, .inl ⟨rfl, fun j h1 h2 => by omega⟩, HS.out, ?_⟩
      repeat (first | exact fits_nil | refine fits_none ?_ | refine fits_some ?_)
    clear HS c0 c2
    clear W
    intro m a W hI K2 hK2
    obtain ⟨hds, k, b, rfl, hkl2, hH, hS, hfit⟩ := hI
    obtain ⟨f, hf⟩ := fits_act hfit
    rw [hds] at hf
    subst hf
    clear hfit hds
    simp only [fillP, Nat.reduceAdd]
    have c0 := hS.b0.cell 0
    have c1 := hS.b0.cell 1
    have c2 := hS.b0.lt
    cases k with
    | succ k =>
      have hks : ((k + 1 : Nat) : Int) - 1 = (k : Int) := by omega
      rw [hks]
      have hlk : k < ks.length := by omega
      obtain ⟨kb, ko, x, rfl, hkb, hx, q0, q1, q2⟩ := (Hks.out.later hS.bel).ltK hlk
      have k1 : (k : Int) < (ks.length : Int) := by omega
      have k2 : (0 : Int) ≤ (k : Int) := by omega
      have k3 : IntKind.i64.wrap ((k : Int) - 1) = (k : Int) - 1 := by rw [IntKind.wrap_i64]; omega
      have hxb := Hk.out.bd hx
      have hcan := Lib.hid (fun W' (hb : Below W.heap.size W W') => refCan_any L FA fn fc fs x i W' (Hfs.out.later (hS.later hb).bel) hxb.1.1 hxb.1.2 (by omega) (by omega))
      have hci : canI L (Fst fs L) ks i k = canB L (Fst fs L) x i := canI_of hx
      have hgd : ks.getD k ⟨0, 0, 0⟩ = x := by simp [List.getD, hx]
      obtain ⟨wd, hwd⟩ : ∃ wd : Nat, x.w = wd := ⟨x.w.toNat, by omega⟩
      have htb : tieB ks Bh i k = (x.p + Bh (i + wd) == Bh i) := by unfold tieB; rw [hgd, hwd]; rfl
      have hpb : pB L (Fst fs L) ks Bh i k = (canB L (Fst fs L) x i && (x.p + Bh (i + wd) == Bh i)) := by unfold pB; rw [hci, htb]
      cases hcb : canB L (Fst fs L) x i with
      | false =>
        rw [hcb] at hcan
        rw [hcb, Bool.false_and] at hpb
        have HH := Lib.hid (hH.no hpb)
        have HS := Lib.hid hS
        clear hci hcb hgd hx hwd hxb htb hpb hH hS
        go_wp2_with fail
        refine dag 30 (by kernel_rfl) (by kernel_rfl) (.is ?_ :: .is ?_ :: .is ?_ :: .is ?_ :: .is ?_ :: .is ?_ :: .is ?_ :: .is ?_ :: .is ?_ :: .is ?_ :: .is ?_ :: .is ?_ :: .is ?_ :: .is ?_ :: .is ?_ :: .is ?_ :: .is ?_ :: .is ?_ :: .is ?_ :: .is ?_ :: .is ?_ :: .is ?_ :: .is ?_ :: .is ?_ :: .is ?_ :: .is ?_ :: .is ?_ :: .is ?_ :: .is ?_ :: .is ?_ :: []) rfl ?st1 ?ob1
        case st1 => simp [Spec.ok]
        case ob1 =>
            intro env W' hG
            obtain ⟨hc, hf⟩ := bcell hG
            iterate 6 (refine obls_is ?_ ?_; unfold doesAt; go_simp; (try go_bits); (first | (refine ⟨brefl _, ?_⟩; rfl) | rfl); intro K hK; go_simp; refine hK _ ?_; clear hK K)
            refine obls_is ?_ ?_
            · unfold doesAt
              go_simp
              refine (hcan.out W' hG).mono ?_
              rintro e w1 ⟨rfl, hb1⟩
              refine ⟨?_, hb1⟩
              rfl
            intro K hK
            go_simp
            refine hK _ ?_
            clear hK K
            repeat (refine obls_is ?_ ?_; unfold doesAt; go_simp; (try go_bits); (first | (refine ⟨brefl _, ?_⟩; rfl) | rfl); intro K hK; go_simp; refine hK _ ?_; clear hK K)
            refine obls_nil (fun _ => ?_)
            have HR2 := Lib.hid (HS.out.later hG)
            clear hc hf hG
            go_wp2
            refine hK2 _ _ k (by omega) ⟨rfl, k, _, rfl, by omega, HH.out, HR2.out, ?_⟩
            repeat (first | exact fits_nil | refine fits_none ?_ | refine fits_some ?_)
      | true =>
        rw [hcb] at hcan
        rw [hcb, Bool.true_and] at hpb
        have hle := (canB_iff.1 hcb).1
        rw [hwd] at hle q0 hcan
        obtain ⟨⟨w1', w2'⟩, ⟨p1, p2⟩, _⟩ := hxb
        have n1a := hS.num (j := i + wd) (by omega)
        have n1b := hS.num (j := i) (by omega)
        have z1 := hS.b1.lt
        obtain ⟨ea1, ea2⟩ := HBd.out (i + wd)
        have a0 : (0 : Int) ≤ (i : Int) + (wd : Int) := by omega
        have a1 : (i : Int) + (wd : Int) < (L : Int) + 1 := by omega
        have a2 : ((i : Int) + (wd : Int)).toNat = i + wd := by omega
        have a3 : (i : Int) < (L : Int) + 1 := by omega
        have a4 : IntKind.i64.wrap ((i : Int) + (wd : Int)) = (i : Int) + (wd : Int) := by rw [IntKind.wrap_i64]; omega
        have a5 : IntKind.i64.wrap (x.p + Bh (i + wd)) = x.p + Bh (i + wd) := by rw [IntKind.wrap_i64]; omega
        have a6 : (0 : Int) ≤ (i : Int) := by omega
        clear hci hcb hgd hx htb ea1 ea2
        cases htie : (x.p + Bh (i + wd) == Bh i) with
        | true =>
          rw [htie] at hpb
          have HH := Lib.hid (HeldB.yes (p := pB L (Fst fs L) ks Bh i) hlk hpb)
          have HS := Lib.hid hS
          clear hwd hpb hH hS
          go_wp2_with fail
          refine dag 30 (by kernel_rfl) (by kernel_rfl) (.is ?_ :: .is ?_ :: .is ?_ :: .is ?_ :: .is ?_ :: .is ?_ :: .is ?_ :: .is ?_ :: .is ?_ :: .is ?_ :: .is ?_ :: .is ?_ :: .is ?_ :: .is ?_ :: .is ?_ :: .is ?_ :: .is ?_ :: .is ?_ :: .is ?_ :: .is ?_ :: .is ?_ :: .is ?_ :: .is ?_ :: .is ?_ :: .is ?_ :: .is ?_ :: .is ?_ :: .is ?_ :: .is ?_ :: .is ?_ :: []) rfl ?st2 ?ob2
          case st2 => simp [Spec.ok]
          case ob2 =>
            intro env W' hG
            obtain ⟨hc, hf⟩ := bcell hG
            iterate 6 (refine obls_is ?_ ?_; unfold doesAt; go_simp; (try go_bits); (first | (refine ⟨brefl _, ?_⟩; rfl) | rfl); intro K hK; go_simp; refine hK _ ?_; clear hK K)
            refine obls_is ?_ ?_
            · unfold doesAt
              go_simp
              refine (hcan.out W' hG).mono ?_
              rintro e w1 ⟨rfl, hb1⟩
              refine ⟨?_, hb1⟩
              rfl
            intro K hK
            go_simp
            refine hK _ ?_
            clear hK K
            repeat (refine obls_is ?_ ?_; unfold doesAt; go_simp; (try go_bits); (first | (refine ⟨brefl _, ?_⟩; rfl) | rfl); intro K hK; go_simp; refine hK _ ?_; clear hK K)
            refine obls_nil (fun _ => ?_)
            have HR2 := Lib.hid (HS.out.later hG)
            clear hc hf hG
            go_wp2
            refine hK2 _ _ k (by omega) ⟨rfl, k, _, rfl, by omega, HH.out, HR2.out, ?_⟩
            repeat (first | exact fits_nil | refine fits_none ?_ | refine fits_some ?_)
        | false =>
          rw [htie] at hpb
          have HH := Lib.hid (hH.no hpb)
          have HS := Lib.hid hS
          clear hwd hpb hH hS
          go_wp2_with fail
          refine dag 30 (by kernel_rfl) (by kernel_rfl) (.is ?_ :: .is ?_ :: .is ?_ :: .is ?_ :: .is ?_ :: .is ?_ :: .is ?_ :: .is ?_ :: .is ?_ :: .is ?_ :: .is ?_ :: .is ?_ :: .is ?_ :: .is ?_ :: .is ?_ :: .is ?_ :: .is ?_ :: .is ?_ :: .is ?_ :: .is ?_ :: .is ?_ :: .is ?_ :: .is ?_ :: .is ?_ :: .is ?_ :: .is ?_ :: .is ?_ :: .is ?_ :: .is ?_ :: .is ?_ :: []) rfl ?st3 ?ob3
          case st3 => simp [Spec.ok]
          case ob3 =>
            intro env W' hG
            obtain ⟨hc, hf⟩ := bcell hG
            iterate 6 (refine obls_is ?_ ?_; unfold doesAt; go_simp; (try go_bits); (first | (refine ⟨brefl _, ?_⟩; rfl) | rfl); intro K hK; go_simp; refine hK _ ?_; clear hK K)
            refine obls_is ?_ ?_
            · unfold doesAt
              go_simp
              refine (hcan.out W' hG).mono ?_
              rintro e w1 ⟨rfl, hb1⟩
              refine ⟨?_, hb1⟩
              rfl
            intro K hK
            go_simp
            refine hK _ ?_
            clear hK K
            repeat (refine obls_is ?_ ?_; unfold doesAt; go_simp; (try go_bits); (first | (refine ⟨brefl _, ?_⟩; rfl) | rfl); intro K hK; go_simp; refine hK _ ?_; clear hK K)
            refine obls_nil (fun _ => ?_)
            have HR2 := Lib.hid (HS.out.later hG)
            clear hc hf hG
            go_wp2
            refine hK2 _ _ k (by omega) ⟨rfl, k, _, rfl, by omega, HH.out, HR2.out, ?_⟩
            repeat (first | exact fits_nil | refine fits_none ?_ | refine fits_some ?_)
    | zero =>
      have hks : ((0 : Nat) : Int) - 1 = -1 := by omega
      rw [hks]
      clear hks
      rcases hH with ⟨rfl, hno⟩ | ⟨j, rfl, _, hjK, hp, hmin⟩
      · have hfind : ((List.range ks.length).filter (canI L (Fst fs L) ks i)).find? (tieB ks Bh i) = none := find_none (fun j hj => hno j (Nat.zero_le _) hj)
        have hx2 : xs ++ firstAt L (Fst fs L) ks Bh (n - 1) (i + 1) = firstAt L (Fst fs L) ks Bh L 0 := by
          rw [← Hxs.out]
          conv => rhs; rw [show n = (n - 1) + 1 from by omega]
          rw [firstAt, if_pos hlt, hfind]
        have Hx2 := Lib.hid hx2
        have HS := Lib.hid hS
        have i3 : IntKind.i64.wrap ((i : Int) + 1) = (i : Int) + 1 := by rw [IntKind.wrap_i64]; omega
        clear hx2 hfind hno hS hK2
        go_wp2
        refine hK _ _ (n - 1) (by omega) ⟨rfl, i + 1, v, xs, by omega, by omega, Hx2.out, HS.out, ?_⟩
        repeat (first | exact fits_nil | refine fits_none ?_ | refine fits_some ?_)
      · obtain ⟨kb, ko, x, rfl, _, hx, _, _, _⟩ := Hks.out.ltK hjK
        have hfind : ((List.range ks.length).filter (canI L (Fst fs L) ks i)).find? (tieB ks Bh i) = some j := find_some hjK hp (fun j' hj' => hmin j' (Nat.zero_le _) hj')
        have hgd : ks.getD j ⟨0, 0, 0⟩ = x := by simp [List.getD, hx]
        have hxb := Hk.out.bd hx
        have hcb : canB L (Fst fs L) x i = true := by
          have h1 := hp
          unfold pB at h1
          rw [canI_of hx] at h1
          simp only [Bool.and_eq_true] at h1
          exact h1.1
        have hle := (canB_iff.1 hcb).1
        obtain ⟨wd, hwd⟩ : ∃ wd : Nat, x.w = wd := ⟨x.w.toNat, by omega⟩
        have hx2 : (xs ++ [⟨i, j⟩]) ++ firstAt L (Fst fs L) ks Bh (n - 1) (i + wd) = firstAt L (Fst fs L) ks Bh L 0 := by
          rw [← Hxs.out]
          conv => rhs; rw [show n = (n - 1) + 1 from by omega]
          rw [firstAt, if_pos hlt, hfind]
          simp [List.getD, hx, hwd]
        have Hx2 := Lib.hid hx2
        have hxl : xs.length ≤ 24 := by
          have h1 := congrArg List.length Hxs.out
          have h2 := firstAt_len (L := L) (F := Fst fs L) (ks := ks) (Bh := Bh) L 0
          simp at h1
          omega
        have hjl : (j : Int) < (ks.length : Int) := by omega
        have j0 : (0 : Int) ≤ (j : Int) := by omega
        have j1 : decide ((j : Int) < 0) = false := by simp
        have Hx := Lib.hid hx
        have Hwd := Lib.hid hwd
        have HS := Lib.hid hS
        obtain ⟨i0, hi0, hz0, hz1, hz2⟩ := info_parts info_sheet
        have zbel := hS.bel.size
        rw [hwd] at hle
        have hwd1 : 1 ≤ wd := by have := hxb.1.1; omega
        have i3 : IntKind.i64.wrap ((i : Int) + (wd : Int)) = (i : Int) + (wd : Int) := by rw [IntKind.wrap_i64]; omega
        clear hx2 hfind hmin hS hK2 hx hgd hxb hcb hwd hp
        have hSO := HS.out.later (balloc (brefl W) (.cells #[.int .i64 i, .int .i64 j] 56))
        have HSO := Lib.hid hSO
        clear hSO
        have Hfin := Lib.hid (show ∀ (v' : Value) (W3 : World), W3.ownsRow w.heap.size 56 2 v' (xs.length + 1) (xs.flatMap encS ++ encS ⟨i, j⟩) → (W.alloc (.cells #[.int .i64 i, .int .i64 j] 56)).grownBy W3 v.ownBlock →
            W3.cell? ⟨kb, ko + j * 3, none⟩ = some (.int .i64 wd) ∧ kb < W3.heap.size ∧ FW w W3 L FA fn fc g1 Bh v' (xs ++ [⟨i, j⟩]) by
          intro v' W3 hown' hgr
          have hS3 := HSO.out.grown ⟨i, j⟩ hgr hown'
          obtain ⟨kb', ko', x', hA', hkb', hx', q0, _, _⟩ := (Hks.out.later hS3.bel).ltK hjK
          cases hA'
          rw [Hx.out] at hx'
          cases hx'
          rw [Hwd.out] at q0
          exact ⟨q0, hkb', hS3⟩)
        go_wp2_with (at_builtin; refine wpList_append_own _ rfl _ _ 26 rfl w.heap.size 56 i0 (.agg #[.int .i64 0, .int .i64 0]) 2 16 und_sheets hi0 hz0 hz1 hz2 rfl (by decide) v xs.length _ rfl HSO.out.own ⟨W.heap.size, 0, none⟩ 1 1 [.int .i64 i, .int .i64 j] rfl rfl (two_new _ _ _ _) (by simp [Value.oneCell']) (by simp only [maxLen]; omega) (by omega) (by have := HSO.out.bel.size; omega) ?_; intro v' W3 hown' hgr _; obtain ⟨q0, zk, hS3⟩ := Hfin.out v' W3 hown' hgr)
        have HS3 := Lib.hid hS3
        clear hS3
        refine hK _ _ (n - 1) (by omega) ⟨rfl, i + wd, v', xs ++ [⟨i, j⟩], by omega, by omega, Hx2.out, HS3.out, ?_⟩
        repeat (first | exact fits_nil | refine fits_none ?_ | refine fits_some ?_)
  · obtain rfl : L = i := by omega
    have hx : xs = firstAt L (Fst fs L) ks Bh L 0 := by
      rw [← Hxs.out]
      cases n with
      | zero => simp [firstAt]
      | succ n => simp [firstAt]
    have Hx := Lib.hid hx
    clear hx hK
    go_wp2
    go_ret2
    refine ⟨v, rfl, HS.out.bel, ?_⟩
    rw [← Hx.out]
    exact HS.out.own

def worthP (L : Int) (fs : List Int) (ks : List Kd) : Int × Int := orE L fs ks fun n => (behindAt n (Fst fs n) ks n 0, 0)
def countP (L : Int) (fs : List Int) (ks : List Kd) : Int × Int := orE L fs ks fun n => (manyAt n (Fst fs n) ks (behindAt n (Fst fs n) ks n) n 0, 0)
def firstP (L : Int) (fs : List Int) (ks : List Kd) : List Sh := if rkE L fs ks = 0 then firstAt L.toNat (Fst fs L.toNat) ks (behindAt L.toNat (Fst fs L.toNat) ks L.toNat) L.toNat 0 else []
section
variable (L : Int) (FA : Option Addr) (fn fc : Nat) (fs : List Int) (KA : Option Addr) (kc : Nat) (ks : List Kd) (w : World) (hfs : Sl 1 encI w w.heap.size FA fn fc fs) (hks : Sl 3 encK w w.heap.size KA ks.length kc ks)
include hfs hks
theorem worth_all : Calls Try.prog 24 #[.agg #[.int .i64 L, .slice FA fn fc], .slice KA ks.length kc] w fun e w' => e = .returned (.tuple #[.int .i64 (worthP L fs ks).1, .int .i64 (worthP L fs ks).2]) ∧ Below w.heap.size w w' := by
  unfold worthP
  by_cases h : rkE L fs ks = 0
  · obtain ⟨n, rfl, _, _, hk⟩ := valid_nat h
    rw [orE_ok h, ← ahead_behind hk]
    exact Worth_ok n FA fn fc fs KA kc ks w hfs hks h
  · rw [orE_bad h]
    exact Worth_bad L FA fn fc fs KA kc ks w hfs hks h
theorem refWorth_all : Calls Try.prog 25 #[.agg #[.int .i64 L, .slice FA fn fc], .slice KA ks.length kc] w fun e w' => e = .returned (.tuple #[.int .i64 (worthP L fs ks).1, .int .i64 (worthP L fs ks).2]) ∧ Below w.heap.size w w' := by
  unfold worthP
  by_cases h : rkE L fs ks = 0
  · obtain ⟨n, rfl, _⟩ := valid_nat h
    rw [orE_ok h]
    exact refWorth_ok n FA fn fc fs KA kc ks w hfs hks h
  · rw [orE_bad h]
    exact refWorth_bad L FA fn fc fs KA kc ks w hfs hks h
theorem count_all : Calls Try.prog 28 #[.agg #[.int .i64 L, .slice FA fn fc], .slice KA ks.length kc] w fun e w' => e = .returned (.tuple #[.int .i64 (countP L fs ks).1, .int .i64 (countP L fs ks).2]) ∧ Below w.heap.size w w' := by
  unfold countP
  by_cases h : rkE L fs ks = 0
  · obtain ⟨n, rfl, _⟩ := valid_nat h
    rw [orE_ok h]
    exact Count_ok n FA fn fc fs KA kc ks w hfs hks h
  · rw [orE_bad h]
    exact Count_bad L FA fn fc fs KA kc ks w hfs hks h
theorem refCount_all : Calls Try.prog 29 #[.agg #[.int .i64 L, .slice FA fn fc], .slice KA ks.length kc] w fun e w' => e = .returned (.tuple #[.int .i64 (countP L fs ks).1, .int .i64 (countP L fs ks).2]) ∧ Below w.heap.size w w' := by
  unfold countP
  by_cases h : rkE L fs ks = 0
  · obtain ⟨n, rfl, _⟩ := valid_nat h
    rw [orE_ok h]
    exact refCount_ok n FA fn fc fs KA kc ks w hfs hks h
  · rw [orE_bad h]
    exact refCount_bad L FA fn fc fs KA kc ks w hfs hks h
theorem first_all : Calls Try.prog 26 #[.agg #[.int .i64 L, .slice FA fn fc], .slice KA ks.length kc] w fun e w' => ∃ G n c, e = .returned (.tuple #[.slice G n c, .int .i64 (rkE L fs ks)]) ∧ Below w.heap.size w w' ∧ Sl 2 encS w' w'.heap.size G n c (firstP L fs ks) := by
  unfold firstP
  by_cases h : rkE L fs ks = 0
  · obtain ⟨n, rfl, _⟩ := valid_nat h
    rw [if_pos h, h]
    refine (Cuts_ok n FA fn fc fs KA kc ks w hfs hks h).mono ?_
    rintro e w' ⟨G, he, hb, hS⟩
    exact ⟨_, _, _, he, hb, hS⟩
  · rw [if_neg h]
    refine (Cuts_bad L FA fn fc fs KA kc ks w hfs hks h).mono ?_
    rintro e w' ⟨he, hb⟩
    obtain ⟨G, n, c, hv, hS⟩ := own_slS (xs := []) (World.ownsRow_nil w' 0 0 2)
    cases hv
    exact ⟨_, _, _, he, hb, hS⟩
theorem refFirst_all : Calls Try.prog 27 #[.agg #[.int .i64 L, .slice FA fn fc], .slice KA ks.length kc] w fun e w' => ∃ G n c, e = .returned (.tuple #[.slice G n c, .int .i64 (rkE L fs ks)]) ∧ Below w.heap.size w w' ∧ Sl 2 encS w' w'.heap.size G n c (firstP L fs ks) := by
  unfold firstP
  by_cases h : rkE L fs ks = 0
  · obtain ⟨n, rfl, _⟩ := valid_nat h
    rw [if_pos h, h]
    refine (refFirst_ok n FA fn fc fs KA kc ks w hfs hks h).mono ?_
    rintro e w' ⟨v, he, hb, hS⟩
    obtain ⟨G, m, c, rfl, hS2⟩ := own_slS hS
    exact ⟨_, _, _, he, hb, hS2⟩
  · rw [if_neg h]
    refine (refFirst_bad L FA fn fc fs KA kc ks w hfs hks h).mono ?_
    rintro e w' ⟨he, hb⟩
    obtain ⟨G, n, c, hv, hS⟩ := own_slS (xs := []) (World.ownsRow_nil w' 0 0 2)
    cases hv
    exact ⟨_, _, _, he, hb, hS⟩
end

set_option maxRecDepth 100000 in
set_option maxHeartbeats 4000000 in
theorem bests_law (L : Int) (FA : Option Addr) (fn fc : Nat) (fs : List Int) (KA : Option Addr) (kc : Nat) (ks : List Kd) (w : World) (hfs : Sl 1 encI w w.heap.size FA fn fc fs) (hks : Sl 3 encK w w.heap.size KA ks.length kc ks) :
    Calls Try.prog 4 #[.agg #[.int .i64 L, .slice FA fn fc], .slice KA ks.length kc] w fun e w' => e = .returned (.bool true) ∧ Below w.heap.size w w' := by
  have hB := balloc (brefl w) (.cells #[.int .i64 L, .slice FA fn fc] 24)
  have HK := Lib.hid (show LW w (w.alloc (.cells #[.int .i64 L, .slice FA fn fc] 24)) w.heap.size L FA fn fc fs KA kc ks from ⟨hB, Blk.new w _ _, hfs.later hB, hks.later hB⟩)
  clear hB hfs hks
  cases hg : gtB fn ks.length with
  | true =>
    have hgr := Lib.hid (fun W => great_any L FA fn fc KA ks.length kc W)
    rw [hg] at hgr
    go_enter Try.func4, Try.ntmps4
    go_wp2_with fail
    refine (hgr.out _).mono ?_
    rintro e w1 ⟨rfl, hb1⟩
    have HB := Lib.hid (Below.later HK.out.bel hb1)
    clear hb1
    go_wp2_with fail
    refine (works_any _).mono ?_
    rintro e w2 ⟨rfl, hb2⟩
    have HB2 := Lib.hid (Below.later HB.out hb2)
    clear hb2
    go_wp2
    go_ret
    exact ⟨rfl, HB2.out⟩
  | false =>
    have hgr := Lib.hid (fun W => great_any L FA fn fc KA ks.length kc W)
    rw [hg] at hgr
    obtain ⟨r, hr⟩ : ∃ r, worthP L fs ks = r := ⟨_, rfl⟩
    obtain ⟨q, hq⟩ : ∃ q, countP L fs ks = q := ⟨_, rfl⟩
    obtain ⟨re, hre⟩ : ∃ re, rkE L fs ks = re := ⟨_, rfl⟩
    have Hr := Lib.hid hr
    have Hq := Lib.hid hq
    have Hre := Lib.hid hre
    clear hr hq hre hg
    go_enter Try.func4, Try.ntmps4
    go_wp2_with fail
    refine (hgr.out _).mono ?_
    rintro e w1 ⟨rfl, hb1⟩
    have HK1 := Lib.hid (HK.out.later hb1)
    obtain ⟨c0, c1, c2⟩ := HK1.out.cells
    clear hb1 HK
    go_wp2_with fail
    refine (worth_all L FA fn fc fs KA kc ks _ HK1.out.fsl HK1.out.ksl).mono ?_
    rintro e w2 ⟨rfl, hb2⟩
    rw [Hr.out]
    have HK2 := Lib.hid (HK1.out.later hb2)
    clear hb2 HK1 c0 c1 c2
    obtain ⟨c0, c1, c2⟩ := HK2.out.cells
    go_wp2_with fail
    refine (refWorth_all L FA fn fc fs KA kc ks _ HK2.out.fsl HK2.out.ksl).mono ?_
    rintro e w3 ⟨rfl, hb3⟩
    rw [Hr.out]
    have HK3 := Lib.hid (HK2.out.later hb3)
    clear hb3 HK2 c0 c1 c2
    obtain ⟨c0, c1, c2⟩ := HK3.out.cells
    go_wp2_with fail
    refine (first_all L FA fn fc fs KA kc ks _ HK3.out.fsl HK3.out.ksl).mono ?_
    rintro e w4 ⟨G4, n4, d4, rfl, hb4, hS4⟩
    rw [Hre.out]
    have HK4 := Lib.hid (HK3.out.later hb4)
    have HS4 := Lib.hid hS4
    clear hb4 HK3 c0 c1 c2 hS4
    obtain ⟨c0, c1, c2⟩ := HK4.out.cells
    go_wp2_with fail
    refine (refFirst_all L FA fn fc fs KA kc ks _ HK4.out.fsl HK4.out.ksl).mono ?_
    rintro e w5 ⟨G5, n5, d5, rfl, hb5, hS5⟩
    rw [Hre.out]
    have HK5 := Lib.hid (HK4.out.later hb5)
    have HS45 := Lib.hid (HS4.out.later hb5)
    have HS5 := Lib.hid hS5
    clear hb5 HK4 c0 c1 c2 HS4 hS5
    obtain ⟨c0, c1, c2⟩ := HK5.out.cells
    go_wp2_with fail
    refine (count_all L FA fn fc fs KA kc ks _ HK5.out.fsl HK5.out.ksl).mono ?_
    rintro e w6 ⟨rfl, hb6⟩
    rw [Hq.out]
    have HK6 := Lib.hid (HK5.out.later hb6)
    have HS46 := Lib.hid (HS45.out.later hb6)
    have HS56 := Lib.hid (HS5.out.later hb6)
    clear hb6 HK5 c0 c1 c2 HS45 HS5
    obtain ⟨c0, c1, c2⟩ := HK6.out.cells
    go_wp2_with fail
    refine (refCount_all L FA fn fc fs KA kc ks _ HK6.out.fsl HK6.out.ksl).mono ?_
    rintro e w7 ⟨rfl, hb7⟩
    rw [Hq.out]
    have HK7 := Lib.hid (HK6.out.later hb7)
    have HS47 := Lib.hid (HS46.out.later hb7)
    have HS57 := Lib.hid (HS56.out.later hb7)
    clear hb7 HK6 c0 c1 c2 HS46 HS56
    obtain ⟨c0, c1, c2⟩ := HK7.out.cells
    go_wp2_with fail
    refine (sheetsEq_any G4 n4 d4 _ G5 n5 d5 _ _ HS47.out HS57.out).mono ?_
    rintro e w8 ⟨rfl, hb8⟩
    rw [decide_eq_true rfl]
    have HK8 := Lib.hid (HK7.out.later hb8)
    clear hb8 HK7 HS47 HS57 c0 c1 c2
    go_wp2_with fail
    refine (works_any _).mono ?_
    rintro e w9 ⟨rfl, hb9⟩
    have HB := Lib.hid (HK8.out.later hb9).bel
    clear hb9 HK8
    go_wp2
    go_ret
    exact ⟨rfl, HB.out⟩
end Go.Proofs.Ytjmphmnimnbgkaa
