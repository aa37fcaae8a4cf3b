/- Helpers of the outright statements: fine, best, count, Given. -/
import Derived.Test.YtjmphmnimnbgkaaOutLaw
import Derived.Test.YtjmphmnimnbgkaaLawPrices
namespace Go.Proofs.Ytjmphmnimnbgkaa
open Go.RowKit Go.Shelf

/-- A ribbon and kinds that the outright statements are about. -/
def fineB (L : Int) (fn : Nat) (fs : List Int) (ks : List Kd) : Bool := !gtB fn ks.length && (ribE L fs == 0) && (kndE ks == 0)
theorem fine_rk {L : Int} {fn : Nat} {fs : List Int} {ks : List Kd} (h : fineB L fn fs ks = true) : rkE L fs ks = 0 ∧ fn ≤ 40 ∧ ks.length ≤ 12 := by
  unfold fineB at h
  simp only [Bool.and_eq_true, Bool.not_eq_true', beq_iff_eq] at h
  obtain ⟨⟨h1, h2⟩, h3⟩ := h
  unfold gtB at h1
  simp only [Bool.or_eq_false_iff, decide_eq_false_iff_not] at h1
  refine ⟨?_, by omega, by omega⟩
  unfold rkE
  rw [if_pos h2, h3]

set_option maxRecDepth 100000 in
set_option maxHeartbeats 2000000 in
theorem fine_any (L : Int) (FA : Option Addr) (fn fc : Nat) (fs : List Int) (KA : Option Addr) (kc : Nat) (ks : List Kd) (w : World) (hfs : Sl 1 encI w w.heap.size FA fn fc fs) (hks : Sl 3 encK w w.heap.size KA ks.length kc ks) :
    Calls Try.prog 38 #[.agg #[.int .i64 L, .slice FA fn fc], .slice KA ks.length kc] w fun e w' => e = .returned (.bool (fineB L fn fs ks)) ∧ Below w.heap.size w w' := by
  have hR := RW.new (L := L) hfs hks
  obtain ⟨W, hW⟩ : ∃ W, w.alloc (.cells #[.int .i64 L, .slice FA fn fc] 24) = W := ⟨_, rfl⟩
  rw [hW] at hR
  have HR := Lib.hid hR
  have c0 := hR.b0.cell 0
  have c1 := hR.b0.cell 1
  have c2 := hR.b0.lt
  have hgr := Lib.hid (fun W => great_any L FA fn fc KA ks.length kc W)
  obtain ⟨b, hb⟩ : ∃ b, fineB L fn fs ks = b := ⟨_, rfl⟩
  have HB := Lib.hid hb
  rw [hb]
  clear hfs hks hR hb
  cases hg : gtB fn ks.length with
  | true =>
    rw [hg] at hgr
    have HE := Lib.hid (show b = false by rw [← HB.out]; unfold fineB; rw [hg]; rfl)
    clear hg
    go_enter Try.func38, Try.ntmps38
    go_wp2_with fail
    clear hW
    refine (hgr.out _).mono ?_
    rintro e w1 ⟨rfl, hb1⟩
    have HR1 := Lib.hid (HR.out.later hb1)
    clear hb1
    go_wp2
    go_ret
    exact ⟨ret_bool HE.out.symm, HR1.out.bel⟩
  | false =>
    rw [hg] at hgr
    obtain ⟨re, hre⟩ : ∃ re, ribE L fs = re := ⟨_, rfl⟩
    obtain ⟨ke, hke⟩ : ∃ ke, kndE ks = ke := ⟨_, rfl⟩
    have HE := Lib.hid (show b = ((re == 0) && (ke == 0)) by rw [← HB.out]; unfold fineB; rw [hg, hre, hke]; rfl)
    have Hre := Lib.hid hre
    have Hke := Lib.hid hke
    clear hg hre hke
    cases h1 : (re == 0) with
    | false =>
      rw [h1] at HE
      go_enter Try.func38, Try.ntmps38
      go_wp2_with fail
      clear hW
      refine (hgr.out _).mono ?_
      rintro e w1 ⟨rfl, hb1⟩
      have hR1 := HR.out.later hb1
      have HR1 := Lib.hid hR1
      have c0 := hR1.b0.cell 0
      have c1 := hR1.b0.cell 1
      have c2 := hR1.b0.lt
      clear hb1 hR1
      go_wp2_with fail
      refine (refRib_any L FA fn fc fs _ HR1.out.fsl).mono ?_
      rintro e w2 ⟨rfl, hb2⟩
      rw [Hre.out]
      have HR2 := Lib.hid (HR1.out.later hb2)
      clear hb2
      go_wp2
      go_ret
      exact ⟨ret_bool HE.out.symm, HR2.out.bel⟩
    | true =>
      rw [h1, Bool.true_and] at HE
      go_enter Try.func38, Try.ntmps38
      go_wp2_with fail
      clear hW
      refine (hgr.out _).mono ?_
      rintro e w1 ⟨rfl, hb1⟩
      have hR1 := HR.out.later hb1
      have HR1 := Lib.hid hR1
      have c0 := hR1.b0.cell 0
      have c1 := hR1.b0.cell 1
      have c2 := hR1.b0.lt
      clear hb1 hR1
      go_wp2_with fail
      refine (refRib_any L FA fn fc fs _ HR1.out.fsl).mono ?_
      rintro e w2 ⟨rfl, hb2⟩
      rw [Hre.out]
      have HR2 := Lib.hid (HR1.out.later hb2)
      clear hb2
      go_wp2_with fail
      refine (refKinds_any KA kc ks _ HR2.out.ksl).mono ?_
      rintro e w3 ⟨rfl, hb3⟩
      rw [Hke.out]
      have HR3 := Lib.hid (HR2.out.later hb3)
      clear hb3
      go_wp2
      go_ret
      exact ⟨ret_bool HE.out.symm, HR3.out.bel⟩

theorem many_pos {L : Nat} {F : Nat → Int} {ks : List Kd} (hk : KOk ks) : 1 ≤ manyAt L F ks (behindAt L F ks L) L 0 := by
  rw [← ref_many0 hk]
  exact (cnt_ref (L := L) (F := F) hk).pos hk (behind_from hk) L 0 (by omega)
theorem many_top {L : Nat} {F : Nat → Int} {ks : List Kd} (hk : KOk ks) (hL : L ≤ 24) : manyAt L F ks (behindAt L F ks L) L 0 ≤ 4738381338321616896 := (manyAt_ok (L := L) (F := F) hk (behindAt L F ks L) L (Nat.le_refl _)).big hL 0 (Nat.zero_le _) |>.2

section
variable (L : Nat) (FA : Option Addr) (fn fc : Nat) (fs : List Int) (KA : Option Addr) (kc : Nat) (ks : List Kd) (w : World) (hfs : Sl 1 encI w w.heap.size FA fn fc fs) (hks : Sl 3 encK w w.heap.size KA ks.length kc ks) (he : rkE L fs ks = 0)
include hfs hks he
set_option maxRecDepth 100000 in
set_option maxHeartbeats 2000000 in
theorem count_fine : Calls Try.prog 41 #[.agg #[.int .i64 L, .slice FA fn fc], .slice KA ks.length kc] w fun e w' => e = .returned (.tuple #[.int .i64 (manyAt L (Fst fs L) ks (behindAt L (Fst fs L) ks L) L 0), .bool true]) ∧ Below w.heap.size w w' := by
  obtain ⟨n, hn, hl1, hl2, hko⟩ := valid_nat he
  have hn := Int.ofNat.inj hn
  subst hn
  have hR := RW.new (L := L) hfs hks
  obtain ⟨W, hW⟩ : ∃ W, w.alloc (.cells #[.int .i64 L, .slice FA fn fc] 24) = W := ⟨_, rfl⟩
  rw [hW] at hR
  have hc := Lib.hid (Count_ok L FA fn fc fs KA kc ks W hR.fsl hR.ksl he)
  have HR := Lib.hid hR
  have c0 := hR.b0.cell 0
  have c1 := hR.b0.cell 1
  have c2 := hR.b0.lt
  have hp := many_pos (L := L) (F := Fst fs L) hko
  obtain ⟨m, hm⟩ : ∃ m, manyAt L (Fst fs L) ks (behindAt L (Fst fs L) ks L) L 0 = m := ⟨_, rfl⟩
  rw [hm] at hp hc ⊢
  have d1 : decide (1 ≤ m) = true := by simpa using hp
  have d2 : decide (m < 1) = false := by simp; omega
  clear hfs hks hR hko he hm hp
  go_enter Try.func41, Try.ntmps41
  go_wp2_with fail
  clear hW
  refine hc.out.mono ?_
  rintro e w1 ⟨rfl, hb1⟩
  have HR1 := Lib.hid (HR.out.later hb1)
  clear hb1
  go_wp2
  go_ret2
  exact ⟨rfl, HR1.out.bel⟩
set_option maxRecDepth 100000 in
set_option maxHeartbeats 2000000 in
theorem best_fine : Calls Try.prog 39 #[.agg #[.int .i64 L, .slice FA fn fc], .slice KA ks.length kc] w fun e w' => ∃ G n c, e = .returned (.tuple #[.int .i64 (behindAt L (Fst fs L) ks L 0), .slice G n c, .bool true]) ∧ Below w.heap.size w w' ∧ Sl 2 encS w' w'.heap.size G n c (firstAt L (Fst fs L) ks (behindAt L (Fst fs L) ks L) L 0) := by
  obtain ⟨n, hn, hl1, hl2, hko⟩ := valid_nat he
  have hn := Int.ofNat.inj hn
  subst hn
  have hR := RW.new (L := L) hfs hks
  obtain ⟨W, hW⟩ : ∃ W, w.alloc (.cells #[.int .i64 L, .slice FA fn fc] 24) = W := ⟨_, rfl⟩
  rw [hW] at hR
  have HR := Lib.hid hR
  have c0 := hR.b0.cell 0
  have c1 := hR.b0.cell 1
  have c2 := hR.b0.lt
  have hbd := behindAt_bd (L := L) (F := Fst fs L) hko L (Nat.le_refl _) 0
  have hcf := cuts_first (L := L) (F := Fst fs L) hko
  have hln := firstAt_len (L := L) (F := Fst fs L) (ks := ks) (Bh := behindAt L (Fst fs L) ks L) L 0
  have hab := ahead_behind (L := L) (F := Fst fs L) hko
  obtain ⟨l, hl⟩ : ∃ l, firstAt L (Fst fs L) ks (behindAt L (Fst fs L) ks L) L 0 = l := ⟨_, rfl⟩
  obtain ⟨v, hv⟩ : ∃ v, behindAt L (Fst fs L) ks L 0 = v := ⟨_, rfl⟩
  rw [hl, hv] at hcf
  rw [hl] at hln ⊢
  rw [hv] at hab hbd ⊢
  have d1 : decide (v < 0) = false := by simp; omega
  have d2 : decide (24000 < v) = false := by simp; omega
  have d3 : decide ((24 : Int) < ((l.length : Nat) : Int)) = false := by simp; omega
  obtain ⟨m, hm⟩ : ∃ m, l.length = m := ⟨_, rfl⟩
  rw [hm] at d3
  have Hl := Lib.hid hl
  have Hab := Lib.hid hab
  have Hcf := Lib.hid hcf
  have Hm := Lib.hid hm
  have He := Lib.hid he
  clear hfs hks hR hko he hbd hcf hln hab hl hv hm
  go_enter Try.func39, Try.ntmps39
  go_wp2_with fail
  clear hW
  refine (Worth_ok L FA fn fc fs KA kc ks _ HR.out.fsl HR.out.ksl He.out).mono ?_
  rintro e w1 ⟨rfl, hb1⟩
  rw [Hab.out]
  have hR1 := HR.out.later hb1
  have HR1 := Lib.hid hR1
  clear c0 c1 c2
  have c0 := hR1.b0.cell 0
  have c1 := hR1.b0.cell 1
  have c2 := hR1.b0.lt
  clear hb1 hR1 HR
  go_wp2_with fail
  refine (Cuts_ok L FA fn fc fs KA kc ks _ HR1.out.fsl HR1.out.ksl He.out).mono ?_
  rintro e w2 ⟨G, rfl, hb2, hS⟩
  rw [Hl.out] at hS ⊢
  rw [Hm.out] at hS ⊢
  have hR2 := HR1.out.later hb2
  have HR2 := Lib.hid hR2
  have HS := Lib.hid hS
  clear c0 c1 c2
  have c0 := hR2.b0.cell 0
  have c1 := hR2.b0.cell 1
  have c2 := hR2.b0.lt
  clear hb2 hR2 HR1 hS
  go_wp2_with fail
  refine (CheckCuts_ok L FA fn fc fs KA kc ks (some ⟨G, 0, none⟩) m m l _ HR2.out.fsl HR2.out.ksl HS.out He.out).mono ?_
  rintro e w3 ⟨rfl, hb3⟩
  rw [Hcf.out]
  have hR3 := HR2.out.later hb3
  have HR3 := Lib.hid hR3
  have HS3 := Lib.hid (HS.out.later hb3)
  clear c0 c1 c2
  have c0 := hR3.b0.cell 0
  have c1 := hR3.b0.cell 1
  have c2 := hR3.b0.lt
  clear hb3 hR3 HR2 HS
  go_wp2_with fail
  refine (refCuts_ok L FA fn fc fs KA kc ks (some ⟨G, 0, none⟩) m m l _ HR3.out.fsl HR3.out.ksl HS3.out He.out).mono ?_
  rintro e w4 ⟨rfl, hb4⟩
  rw [Hcf.out]
  have HR4 := Lib.hid (HR3.out.later hb4)
  have HS4 := Lib.hid (HS3.out.later hb4)
  clear hb4 HR3 HS3
  go_wp2
  exact bodyPost_ret (v := .tuple #[.int .i64 v, .slice (some ⟨G, 0, none⟩) m m, .bool true]) (by simp [results, Try.results39, go_sem]) rfl ⟨_, m, m, rfl, HR4.out.bel, HS4.out⟩
end

/-- Cuts, by numbers. -/
def givenP (L : Nat) (F : Nat → Int) (ks : List Kd) : List Nat → Nat → List Sh
  | [], _ => []
  | b :: bs, i => if L ≤ i + b / 8 % 3 then [] else
      if canI L F ks (i + b / 8 % 3) (b % ks.length) then ⟨(i + b / 8 % 3 : Nat), (b % ks.length : Nat)⟩ :: givenP L F ks bs (i + b / 8 % 3 + (ks.getD (b % ks.length) ⟨0, 0, 0⟩).w.toNat) else givenP L F ks bs (i + b / 8 % 3)
theorem given_good {L : Nat} {F : Nat → Int} {ks : List Kd} (hk : KOk ks) : ∀ (bs : List Nat) (i : Nat), i ≤ L → GoodL L F ks i (givenP L F ks bs i)
  | [], i, hi => .nil i hi
  | b :: bs, i, hi => by
    unfold givenP
    by_cases h1 : L ≤ i + b / 8 % 3
    · rw [if_pos h1]; exact .nil i hi
    · rw [if_neg h1]
      by_cases h2 : canI L F ks (i + b / 8 % 3) (b % ks.length) = true
      · rw [if_pos h2]
        obtain ⟨x, hx, hc, hd⟩ := canI_at h2
        have hle := (canB_iff.1 hc).1
        have hb := hk.bd hx
        rw [hd]
        exact .cons i _ _ x _ (by omega) hx hc (given_good hk bs _ (by omega))
      · rw [if_neg h2]
        exact (given_good hk bs _ (by omega)).start (by omega)

structure GW (w W : World) (L : Nat) (FA : Option Addr) (fn fc : Nat) (v : Value) (xs : List Sh) : Prop where
  bel : Below w.heap.size w W
  b0 : Blk W w.heap.size 24 #[.int .i64 L, .slice FA fn fc]
  own : W.ownsRow w.heap.size 56 2 v xs.length (xs.flatMap encS)
section
variable {w W W' : World} {L : Nat} {FA : Option Addr} {fn fc : Nat} {v : Value} {xs : List Sh}
theorem GW.later (h : GW w W L FA fn fc v xs) (hb : Below W.heap.size W W') : GW w W' L FA fn fc v xs := ⟨Below.later h.bel hb, h.b0.later hb, own_later h.own hb⟩
theorem GW.grown {v' : Value} (h : GW w W L FA fn fc v xs) (x : Sh) (hg : W.grownBy W' v.ownBlock) (ho : W'.ownsRow w.heap.size 56 2 v' (xs.length + 1) (xs.flatMap encS ++ encS x)) : GW w W' L FA fn fc v' (xs ++ [x]) := by
  have hrow : ∀ k, v.ownBlock = some k → w.heap.size ≤ k := fun k hk => (h.own.lt k hk).1
  refine ⟨h.bel.trans ⟨hg.os, hg.tape, hg.output, hg.size, fun i hi => hg.block i (by have := h.bel.size; omega) (fun e => by have := hrow i e.symm; omega)⟩, h.b0.grown hg (h.b0.notRow h.own (by decide)), ?_⟩
  simpa [List.flatMap_append] using ho
end

set_option maxRecDepth 100000 in
set_option maxHeartbeats 4000000 in
theorem given_any (L : Nat) (FA : Option Addr) (fn fc : Nat) (fs : List Int) (KA : Option Addr) (kc : Nat) (ks : List Kd) (BA : Option Addr) (bn bc : Nat) (bs : List Nat) (w : World) (hfs : Sl 1 encI w w.heap.size FA fn fc fs) (hks : Sl 3 encK w w.heap.size KA ks.length kc ks) (hbs : Sl 1 encB w w.heap.size BA bn bc bs) (hbd : ∀ x ∈ bs, x < 256) (hbn : bn ≤ 60) (hl2 : L ≤ 24) (hko : KOk ks) :
    Calls Try.prog 40 #[.agg #[.int .i64 L, .slice FA fn fc], .slice KA ks.length kc, .slice BA bn bc] w fun e w' => ∃ v, e = .returned v ∧ Below w.heap.size w w' ∧ w'.ownsRow w.heap.size 56 2 v (givenP L (Fst fs L) ks bs 0).length ((givenP L (Fst fs L) ks bs 0).flatMap encS) := by
  have hbl := hbs.len
  have hkl := hko.2.1
  have hk1 := hko.1
  have Hfs := Lib.hid hfs
  have Hks := Lib.hid hks
  have Hbs := Lib.hid hbs
  have Hbd := Lib.hid hbd
  have Hk := Lib.hid hko
  have HS0 := Lib.hid (show GW w (w.alloc (.cells #[.int .i64 L, .slice FA fn fc] 24)) L FA fn fc (.slice none 0 0) [] from ⟨balloc (brefl w) _, Blk.new w _ _, World.ownsRow_nil _ _ _ _⟩)
  clear hfs hks hbs hbd hko
  go_enter Try.func40, Try.ntmps40
  go_wp2_with fail
  refine loop_n (fun m a W => a.defers = [] ∧ ∃ (i fr : Nat) (v : Value) (xs : List Sh), i + m = bn ∧ fr ≤ L ∧ xs ++ givenP L (Fst fs L) ks (bs.drop i) fr = givenP L (Fst fs L) ks bs 0 ∧ xs.length ≤ i ∧ GW w W L FA fn fc v xs ∧ Fits (none :: some (.slice KA ks.length kc) :: some (.slice BA bn bc) :: some (.pointer (some ⟨w.heap.size, 0, none⟩)) :: none :: none :: none :: some (v) :: some (.int .i64 (fr : Nat)) :: some (.int .i64 (i : Nat)) :: none :: none :: none :: none :: none :: none :: none :: none :: none :: none :: none :: none :: none :: none :: none :: none :: none :: none :: none :: none :: none :: none :: none :: none :: none :: none :: none :: none :: none :: none :: none :: none :: none :: none :: none :: none :: none :: none :: none :: none :: none :: none :: none :: none :: none :: none :: none :: none :: none :: none :: []) a.tmps.toList) bn ?_ ?_
  · refine ⟨rfl, 0, 0, _, [], by omega, Nat.zero_le _, by simp, Nat.zero_le _, HS0.out, ?_⟩
    repeat (first | exact fits_nil | refine fits_none ?_ | refine fits_some ?_)
  clear HS0
  intro m a W hI K hK
  obtain ⟨hds, i, fr, v, xs, him, hfL, hxs, hxi, hS, hfit⟩ := hI
  obtain ⟨g, hg⟩ := fits_act hfit
  rw [hds] at hg
  subst hg
  clear hfit hds
  simp only [fillP, Nat.reduceAdd]
  have c0 := hS.b0.cell 0
  have c1 := hS.b0.cell 1
  have c2 := hS.b0.lt
  by_cases hlt : i < bn
  · have i1 : (i : Int) < (bn : Int) := by omega
    have i2 : (0 : Int) ≤ (i : Int) := by omega
    have i3 : IntKind.i64.wrap ((i : Int) + 1) = (i : Int) + 1 := by rw [IntKind.wrap_i64]; omega
    obtain ⟨bb, bo, _, rfl, hbw, _, _⟩ := Hbs.out.ltB hlt
    have hbs2 : Sl 1 encB W W.heap.size (some ⟨bb, bo, none⟩) bn bc bs := Hbs.out.later hS.bel
    obtain ⟨b', o', x, hA', hbW, hx, q0⟩ := hbs2.ltB hlt
    cases hA'
    have hx256 := Hbd.out x (List.mem_of_getElem? hx)
    obtain ⟨kk, hkk⟩ : ∃ kk, x % ks.length = kk := ⟨_, rfl⟩
    have hkkl : kk < ks.length := by rw [← hkk]; exact Nat.mod_lt _ (by omega)
    obtain ⟨dd, hdd⟩ : ∃ dd, x / 8 % 3 = dd := ⟨_, rfl⟩
    have hdd3 : dd < 3 := by omega
    have e1 : (x : Int).tmod (ks.length : Int) = (kk : Int) := by rw [Int.tmod_eq_emod_of_nonneg (by omega), ← hkk]; rfl
    have e2 : ((x : Int).tdiv 8).tmod 3 = (dd : Int) := by rw [Int.tdiv_eq_ediv_of_nonneg (by omega), Int.tmod_eq_emod_of_nonneg (by omega), ← hdd]; omega
    have hgs : givenP L (Fst fs L) ks (bs.drop i) fr = if L ≤ fr + dd then [] else if canI L (Fst fs L) ks (fr + dd) kk then ⟨(fr + dd : Nat), (kk : Nat)⟩ :: givenP L (Fst fs L) ks (bs.drop (i + 1)) (fr + dd + (ks.getD kk ⟨0, 0, 0⟩).w.toNat) else givenP L (Fst fs L) ks (bs.drop (i + 1)) (fr + dd) := by
      have hxi := (List.getElem?_eq_some_iff.1 hx)
      obtain ⟨hxl, hxe⟩ := hxi
      rw [List.drop_eq_getElem_cons hxl, hxe]
      show (if L ≤ fr + x / 8 % 3 then _ else _) = _
      rw [hdd, hkk]
    obtain ⟨u, hu⟩ : ∃ u, fr + dd = u := ⟨_, rfl⟩
    rw [hu] at hgs
    have e3 : IntKind.i64.wrap ((fr : Int) + (dd : Int)) = (u : Int) := by rw [IntKind.wrap_i64]; omega
    have e4 : (fr : Int) + (dd : Int) = (u : Int) := by omega
    have kl : (0 : Int) < (ks.length : Int) := by omega
    have e5 : (fr : Int) + (x : Int) / 8 % 3 = (u : Int) := by omega
    have e6 : IntKind.i64.wrap (u : Int) = (u : Int) := by rw [IntKind.wrap_i64]; omega
    have kl3 : (ks.length : Int) ≠ 0 := by omega
    have kk1 : (kk : Int) < (ks.length : Int) := by omega
    have x1 : (x : Int) < 256 := by omega
    have HS := Lib.hid hS
    have Hx := Lib.hid hx
    have Hxs := Lib.hid hxs
    by_cases hLu : L ≤ u
    · have d1 : decide ((L : Int) ≤ (u : Int)) = true := by simp; omega
      rw [if_pos hLu] at hgs
      have hxx : xs = givenP L (Fst fs L) ks bs 0 := by rw [← Hxs.out, hgs, List.append_nil]
      have Hxx := Lib.hid hxx
      clear hgs hxx hxs hS hx hkk hdd hK hbs2 hu
      go_wp2
      go_ret
      refine ⟨v, rfl, HS.out.bel, ?_⟩
      rw [← Hxx.out]
      exact HS.out.own
    · have d1 : decide ((L : Int) ≤ (u : Int)) = false := by simp; omega
      rw [if_neg hLu] at hgs
      obtain ⟨kb, ko, y, rfl, hkb, hy, r0, r1, r2⟩ := (Hks.out.later HS.out.bel).ltK hkkl
      have hyb := Hk.out.bd hy
      have hci : canI L (Fst fs L) ks u kk = canB L (Fst fs L) y u := canI_of hy
      have hgd : ks.getD kk ⟨0, 0, 0⟩ = y := by simp [List.getD, hy]
      rw [hci, hgd] at hgs
      have hcan := Lib.hid (fun W' (hb : Below W.heap.size W W') => refCan_any L FA fn fc fs y u W' (Hfs.out.later (HS.out.later hb).bel) hyb.1.1 hyb.1.2 (by omega) (by omega))
      have huL : u ≤ L := by omega
      have Hy := Lib.hid hy
      have hlen24 : xs.length ≤ 60 := by omega
      cases hcb : canB L (Fst fs L) y u with
      | false =>
        rw [hcb] at hcan hgs
        rw [if_neg (by simp)] at hgs
        have Hx2 := Lib.hid (show xs ++ givenP L (Fst fs L) ks (bs.drop (i + 1)) u = givenP L (Fst fs L) ks bs 0 by rw [← Hxs.out, hgs])
        clear hgs hxs hS hx hkk hdd hbs2 hu hy hyb hci hgd hcb
        go_wp2_with fail
        refine dag 7 (by kernel_rfl) (by kernel_rfl) (.is ?_ :: .is ?_ :: .is ?_ :: .is ?_ :: .is ?_ :: .is ?_ :: .is ?_ :: []) rfl ?st1 ?ob1
        case st1 => simp [Spec.ok]
        case ob1 =>
          intro env W' hG
          obtain ⟨hc, hf⟩ := bcell hG
          iterate 6 (refine obls_is ?_ ?_; unfold doesAt; go_simp; (try go_bits); (first | (refine ⟨brefl _, ?_⟩; rfl) | rfl); intro K hK; go_simp; refine hK _ ?_; clear hK K)
          refine obls_is ?_ ?_
          · unfold doesAt
            go_simp
            refine (hcan.out W' hG).mono ?_
            rintro e w1 ⟨rfl, hb1⟩
            refine ⟨?_, hb1⟩
            rfl
          intro K hK
          go_simp
          refine hK _ ?_
          clear hK K
          refine obls_nil (fun _ => ?_)
          have HR2 := Lib.hid (HS.out.later hG)
          clear hc hf hG
          go_wp2
          refine hK _ _ (m - 1) (by omega) ⟨rfl, i + 1, u, v, xs, by omega, huL, Hx2.out, by omega, HR2.out, ?_⟩
          repeat (first | exact fits_nil | refine fits_none ?_ | refine fits_some ?_)
      | true =>
        rw [hcb] at hcan hgs
        rw [if_pos rfl] at hgs
        have hle := (canB_iff.1 hcb).1
        obtain ⟨wd, hwd⟩ : ∃ wd : Nat, y.w = wd := ⟨y.w.toNat, by omega⟩
        have hwdn : y.w.toNat = wd := by omega
        rw [hwdn] at hgs
        rw [hwd] at hle
        have Hx2 := Lib.hid (show (xs ++ [⟨u, kk⟩]) ++ givenP L (Fst fs L) ks (bs.drop (i + 1)) (u + wd) = givenP L (Fst fs L) ks bs 0 by rw [← Hxs.out, hgs]; simp)
        have e7 : IntKind.i64.wrap ((u : Int) + (wd : Int)) = (u : Int) + (wd : Int) := by rw [IntKind.wrap_i64]; omega
        have Hwd := Lib.hid hwd
        clear hgs hxs hS hx hkk hdd hbs2 hu hy hyb hci hgd hcb hwd hwdn
        go_wp2_with fail
        refine dag 7 (by kernel_rfl) (by kernel_rfl) (.is ?_ :: .is ?_ :: .is ?_ :: .is ?_ :: .is ?_ :: .is ?_ :: .is ?_ :: []) rfl ?st2 ?ob2
        case st2 => simp [Spec.ok]
        case ob2 =>
          intro env W' hG
          obtain ⟨hc, hf⟩ := bcell hG
          iterate 6 (refine obls_is ?_ ?_; unfold doesAt; go_simp; (try go_bits); (first | (refine ⟨brefl _, ?_⟩; rfl) | rfl); intro K hK; go_simp; refine hK _ ?_; clear hK K)
          refine obls_is ?_ ?_
          · unfold doesAt
            go_simp
            refine (hcan.out W' hG).mono ?_
            rintro e w1 ⟨rfl, hb1⟩
            refine ⟨?_, hb1⟩
            rfl
          intro K hK
          go_simp
          refine hK _ ?_
          clear hK K
          refine obls_nil (fun _ => ?_)
          have hS := HS.out.later hG
          have zbel := hS.bel.size
          have HSO := Lib.hid (hS.later (balloc (brefl W') (.cells #[.int .i64 u, .int .i64 kk] 56)))
          obtain ⟨i0, hi0, hz0, hz1, hz2⟩ := info_parts info_sheet
          have Hfin := Lib.hid (show ∀ (v' : Value) (W3 : World), W3.ownsRow w.heap.size 56 2 v' (xs.length + 1) (xs.flatMap encS ++ encS ⟨u, kk⟩) → (W'.alloc (.cells #[.int .i64 u, .int .i64 kk] 56)).grownBy W3 v.ownBlock →
              W3.cell? ⟨kb, ko + kk * 3, none⟩ = some (.int .i64 wd) ∧ kb < W3.heap.size ∧ GW w W3 L FA fn fc v' (xs ++ [⟨u, kk⟩]) by
            intro v' W3 hown' hgr
            have hS3 := HSO.out.grown ⟨u, kk⟩ hgr hown'
            obtain ⟨kb', ko', x', hA', hkb', hx', q0, _, _⟩ := (Hks.out.later hS3.bel).ltK hkkl
            cases hA'
            rw [Hy.out] at hx'
            cases hx'
            rw [Hwd.out] at q0
            exact ⟨q0, hkb', hS3⟩)
          clear hc hf hG hS r0 r1 r2 q0 c0 c1
          go_wp2_with (at_builtin; refine wpList_append_own _ rfl _ _ 26 rfl w.heap.size 56 i0 (.agg #[.int .i64 0, .int .i64 0]) 2 16 und_sheets hi0 hz0 hz1 hz2 rfl (by decide) v xs.length _ rfl HSO.out.own ⟨W'.heap.size, 0, none⟩ 1 1 [.int .i64 u, .int .i64 kk] rfl rfl (two_new _ _ _ _) (by simp [Value.oneCell']) (by simp only [maxLen]; omega) (by omega) (by have := HSO.out.bel.size; omega) ?_; intro v' W3 hown' hgr _; obtain ⟨q0, zk, hS3⟩ := Hfin.out v' W3 hown' hgr)
          have HS3 := Lib.hid hS3
          clear hS3
          refine hK _ _ (m - 1) (by omega) ⟨rfl, i + 1, u + wd, v', xs ++ [⟨u, kk⟩], by omega, by omega, Hx2.out, by simp; omega, HS3.out, ?_⟩
          repeat (first | exact fits_nil | refine fits_none ?_ | refine fits_some ?_)
  · obtain rfl : i = bn := by omega
    have hx : xs = givenP L (Fst fs L) ks bs 0 := by
      rw [← hxs, List.drop_eq_nil_of_le (by omega)]
      simp [givenP]
    have Hx := Lib.hid hx
    have HS := Lib.hid hS
    clear hx hxs hS hK
    go_wp2
    go_ret
    refine ⟨v, rfl, HS.out.bel, ?_⟩
    rw [← Hx.out]
    exact HS.out.own
end Go.Proofs.Ytjmphmnimnbgkaa
