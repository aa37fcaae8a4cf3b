/- The walk of SteamKept. -/
import Derived.Test.YtbbdlebmagknmaaSLawKeeps
import Derived.Test.YtbbdlebmagknmaaSPlain3
namespace Go.Proofs.Ytbbdlebmagknmaa
open Go.RowKit Go.Shelf

/-! ### What is kept -/
def IncL (n : Nat) (l : List Nat) : Prop := l.Pairwise (· < ·) ∧ ∀ x ∈ l, x < n
theorem inc_len {n : Nat} : ∀ (m : Nat) (l : List Nat), l.Pairwise (· < ·) → (∀ x ∈ l, m ≤ x ∧ x < n) → m ≤ n → l.length ≤ n - m
  | m, [], _, _, _ => by simp
  | m, x :: l, hp, hx, hm => by
    obtain ⟨h1, h2⟩ := List.pairwise_cons.1 hp
    have hx0 := hx x (by simp)
    have h3 := inc_len (x + 1) l h2 (fun y hy => ⟨h1 y hy, (hx y (by simp [hy])).2⟩) (by omega)
    simp only [List.length_cons]
    omega
theorem IncL.len {n : Nat} {l : List Nat} (h : IncL n l) : l.length ≤ n := by
  have := inc_len 0 l h.1 (fun x hx => ⟨Nat.zero_le _, h.2 x hx⟩) (Nat.zero_le _)
  omega
theorem inc_all {n : Nat} : ∀ (m : Nat) (l : List Nat), l.Pairwise (· < ·) → (∀ x ∈ l, m ≤ x ∧ x < n) → l.length = n - m → l = (List.range (n - m)).map (· + m)
  | m, [], _, _, h => by
    have : n - m = 0 := by simp at h; omega
    rw [this]
    rfl
  | m, x :: l, hp, hx, hl => by
    obtain ⟨h1, h2⟩ := List.pairwise_cons.1 hp
    have hx0 := hx x (by simp)
    have hb := inc_len (x + 1) l h2 (fun y hy => ⟨h1 y hy, (hx y (by simp [hy])).2⟩) (by omega)
    simp only [List.length_cons] at hl
    have hxm : x = m := by omega
    subst hxm
    have h3 := inc_all (x + 1) l h2 (fun y hy => ⟨h1 y hy, (hx y (by simp [hy])).2⟩) (by omega)
    rw [show n - x = (n - (x + 1)) + 1 by omega, List.range_succ_eq_map, List.map_cons, List.map_map, h3]
    congr 1
    · omega
    · exact List.map_congr_left fun i _ => by simp only [Function.comp]; omega
theorem IncL.all {n : Nat} {l : List Nat} (h : IncL n l) (hl : l.length = n) : l = List.range n := by
  have := inc_all 0 l h.1 (fun x hx => ⟨Nat.zero_le _, h.2 x hx⟩) (by omega)
  rw [this]
  simp
theorem part_all (rs : List Rg) : partP rs (List.range rs.length) = rs := by
  unfold partP
  exact rs_range rs
theorem inc_range (n : Nat) : IncL n (List.range n) := ⟨List.pairwise_lt_range, fun _ hx => List.mem_range.1 hx⟩
theorem part_inc {rs : List Rg} (hr : RsOk rs) {l : List Nat} (h : IncL rs.length l) : RsOk (partP rs l) := part_ok hr h.2 (Nat.le_trans h.len hr.1)
theorem part_nil (rs : List Rg) {L : Nat} (hL : 1 ≤ L) : LA (partP rs []) L 101 = 0 := by
  obtain ⟨u, e1, c1, _⟩ := la_chain (rs := partP rs []) (L := L) ⟨by simp [partP], by simp [partP]⟩ hL
  rw [e1]
  cases c1 with
  | nil => rfl
  | cons _ _ _ x _ hx => simp [partP] at hx
def keptL (rs : List Rg) (L : Nat) (ld : Int) : List Nat := pickL (goL (fitsB rs L ld) rs.length rs.length []) []
structure KeptIs (rs : List Rg) (L : Nat) (ld : Int) (k : List Nat) : Prop where
  inc : IncL rs.length k
  fit : LA (partP rs k) L 101 ≤ ld
  most : ∀ own, IncL rs.length own → LA (partP rs own) L 101 ≤ ld → own.length ≤ k.length
theorem kept_is {rs : List Rg} {L : Nat} {ld : Int} (hr : RsOk rs) (hL : 1 ≤ L) (hld : 0 ≤ ld) : KeptIs rs L ld (keptL rs L ld) := by
  have hin : IncL rs.length (keptL rs L ld) ∧ LA (partP rs (keptL rs L ld)) L 101 ≤ ld := by
    unfold keptL
    rcases pick_mem (goL (fitsB rs L ld) rs.length rs.length []) [] with h | h
    · rw [h, part_nil rs hL]
      exact ⟨⟨List.Pairwise.nil, by simp⟩, hld⟩
    · obtain ⟨y, hy, _, h2, h3, h4⟩ := goL_mem _ _ _ _ (Nat.le_refl _) _ h
      rw [List.nil_append] at hy
      refine ⟨?_, ?_⟩
      · rw [hy]
        exact ⟨h3, fun x hx => (h4 x hx).2⟩
      · exact of_decide_eq_true h2
  refine ⟨hin.1, hin.2, fun own ho hf => ?_⟩
  by_cases h0 : own = []
  · rw [h0]; simp
  · unfold keptL
    refine pick_most _ _ own ?_
    have h := goL_all (fitsB rs L ld) rs.length rs.length [] own (Nat.le_refl _) h0 ho.1 (fun i hi => ⟨by omega, ho.2 i hi⟩) (fun j _ => by
      rw [List.nil_append]
      unfold fitsB
      have hsub : (partP rs (own.take j)).Sublist (partP rs own) := by
        unfold partP
        exact (List.take_sublist j own).map _
      have := la_sublist hsub (part_inc hr ho) hL 101
      simp only [decide_eq_true_eq]
      omega)
    rw [List.nil_append] at h
    exact h
theorem KeptIs.more {rs : List Rg} {L : Nat} {ld : Int} {k l : List Nat} (h : KeptIs rs L ld k) (h' : KeptIs rs L (ld + 1) l) : k.length ≤ l.length := h'.most k h.inc (by have := h.fit; omega)
theorem KeptIs.all {rs : List Rg} {L : Nat} {ld : Int} {k : List Nat} (h : KeptIs rs L ld k) : k.length = rs.length ↔ LA rs L 101 ≤ ld := by
  constructor
  · intro hk
    have h1 := h.fit
    rw [h.inc.all hk, part_all] at h1
    exact h1
  · intro hv
    have h1 := h.most (List.range rs.length) (inc_range _) (by rw [part_all]; exact hv)
    have h2 := h.inc.len
    simp at h1
    omega
theorem inc_snoc {i : Nat} {l : List Nat} (h : IncL i l) : IncL (i + 1) (l ++ [i]) := by
  refine ⟨List.pairwise_append.2 ⟨h.1, by simp, fun x hx y hy => ?_⟩, fun x hx => ?_⟩
  · rw [List.mem_singleton.1 hy]
    exact h.2 x hx
  · rcases List.mem_append.1 hx with hx | hx
    · have := h.2 x hx; omega
    · rw [List.mem_singleton.1 hx]; omega

/-! ### isList -/
set_option maxRecDepth 100000 in
set_option maxHeartbeats 4000000 in
theorem isList_any (B : Option Addr) (m d n : Nat) (l : List Nat) (w : World) (hl : Sl 1 encI w w.heap.size B m d (castL l)) (hi : IncL n l) (hn : n ≤ 100) :
    Calls Try.prog 47 #[.slice B m d, .int .i64 (n : Int)] w fun e w' => e = .returned (.bool true) ∧ Below w.heap.size w w' := by
  have hml := hl.len
  rw [castL_len] at hml
  subst hml
  have hm100 : l.length ≤ 100 := Nat.le_trans hi.len hn
  have Hl := Lib.hid hl
  have Hi := Lib.hid hi
  have HB := Lib.hid (brefl w)
  clear hl hi
  go_enter Try.func47, Try.ntmps47
  go_wp2_with fail
  refine loop_n (fun q a W => a.defers = [] ∧ ∃ (i : Nat), i + q = l.length ∧ Below w.heap.size w W ∧ Fits (some (.slice B l.length d) :: some (.int .i64 (n : Int)) :: none :: none :: none :: some (.int .i64 (i : Nat)) :: none :: none :: none :: none :: none :: none :: none :: none :: none :: none :: none :: none :: none :: none :: none :: none :: none :: none :: none :: none :: none :: none :: none :: none :: none :: none :: none :: none :: none :: none :: none :: none :: none :: none :: none :: []) a.tmps.toList) l.length ?_ ?_
  · refine ⟨rfl, 0, by omega, HB.out, ?_⟩
    repeat (first | exact fits_nil | refine fits_none ?_ | refine fits_some ?_)
  clear HB
  intro q a W hI K hK
  obtain ⟨hds, i, hiq, hB, hfit⟩ := hI
  obtain ⟨f', hf'⟩ := fits_act hfit
  rw [hds] at hf'
  subst hf'
  clear hfit hds
  simp only [fillP, Nat.reduceAdd]
  have HB := Lib.hid hB
  by_cases hlt : i < l.length
  · obtain ⟨rb, ro, z, rfl, hrb, hz, z0⟩ := (Hl.out.later hB).ltI hlt
    obtain ⟨x, hx, rfl⟩ : ∃ x, l[i]? = some x ∧ z = (x : Int) := by
      unfold castL at hz
      rw [List.getElem?_map] at hz
      obtain ⟨x, h1, h2⟩ := Option.map_eq_some_iff.1 hz
      exact ⟨x, h1, h2.symm⟩
    have hxn := Hi.out.2 x (List.mem_of_getElem? hx)
    have i1 : (i : Int) < (l.length : Int) := by omega
    have i2 : (0 : Int) ≤ (i : Int) := by omega
    have i3 : IntKind.i64.wrap ((i : Int) + 1) = (i : Int) + 1 := by rw [IntKind.wrap_i64]; omega
    have i4 : ¬ ((x : Int) < 0) := by omega
    have i5 : ¬ ((n : Int) ≤ (x : Int)) := by omega
    by_cases h0 : 0 < i
    · obtain ⟨j, hj⟩ : ∃ j, i = j + 1 := ⟨i - 1, by omega⟩
      obtain ⟨_, _, z', hA', _, hz', z0'⟩ := (Hl.out.later hB).ltI (i := j) (by omega)
      cases hA'
      obtain ⟨y, hy, rfl⟩ : ∃ y, l[j]? = some y ∧ z' = (y : Int) := by
        unfold castL at hz'
        rw [List.getElem?_map] at hz'
        obtain ⟨y, h1, h2⟩ := Option.map_eq_some_iff.1 hz'
        exact ⟨y, h1, h2.symm⟩
      have hyx : y < x := by
        obtain ⟨h1, h2⟩ := List.getElem?_eq_some_iff.1 hx
        obtain ⟨h3, h4⟩ := List.getElem?_eq_some_iff.1 hy
        have := List.pairwise_iff_getElem.1 Hi.out.1 j i h3 h1 (by omega)
        omega
      have i6 : ¬ ((x : Int) ≤ (y : Int)) := by omega
      have i7 : (0 : Int) < (i : Int) := by omega
      have i8 : IntKind.i64.wrap ((i : Int) - 1) = (j : Int) := by rw [IntKind.wrap_i64]; omega
      have i9 : (j : Int) < (l.length : Int) := by omega
      have i10 : (0 : Int) ≤ (j : Int) := by omega
      obtain ⟨xi, hxi⟩ : ∃ xi, (x : Int) = xi := ⟨_, rfl⟩
      obtain ⟨yi, hyi⟩ : ∃ yi, (y : Int) = yi := ⟨_, rfl⟩
      rw [hxi] at z0 i4 i5 i6
      rw [hyi] at z0' i6
      clear hB hz hz' hx hy hj hxi hyi hyx hxn
      go_wp2_with fail
      refine dag 29 (by kernel_rfl) (by kernel_rfl) (.is ?_ :: .is ?_ :: .is ?_ :: .is ?_ :: .is ?_ :: .is ?_ :: .is ?_ :: .is ?_ :: .is ?_ :: .is ?_ :: .is ?_ :: .is ?_ :: .is ?_ :: .is ?_ :: .is ?_ :: .is ?_ :: .is ?_ :: .is ?_ :: .is ?_ :: .is ?_ :: .is ?_ :: .is ?_ :: .is ?_ :: .is ?_ :: .is ?_ :: .is ?_ :: .is ?_ :: .is ?_ :: .is ?_ :: []) rfl ?sta ?oba
      case sta => simp [Spec.ok]
      case oba =>
      intro env V hG
      obtain ⟨hc, hf⟩ := bcell hG
      repeat (refine obls_is ?_ ?_; unfold doesAt; go_simp; (try go_bits); (first | (refine ⟨brefl _, ?_⟩; rfl) | rfl); intro K hK; go_simp; refine hK _ ?_; clear hK K)
      refine obls_nil (fun _ => ?_)
      have HB2 := Lib.hid (Below.later HB.out hG)
      clear hc hf hG HB
      go_wp2
      refine hK _ _ (q - 1) (by omega) ⟨rfl, i + 1, by omega, HB2.out, ?_⟩
      repeat (first | exact fits_nil | refine fits_none ?_ | refine fits_some ?_)
    · have i7 : ¬ ((0 : Int) < (i : Int)) := by omega
      obtain ⟨xi, hxi⟩ : ∃ xi, (x : Int) = xi := ⟨_, rfl⟩
      rw [hxi] at z0 i4 i5
      clear hB hz hx hxi hxn
      go_wp2_with fail
      refine dag 29 (by kernel_rfl) (by kernel_rfl) (.is ?_ :: .is ?_ :: .is ?_ :: .is ?_ :: .is ?_ :: .is ?_ :: .is ?_ :: .is ?_ :: .is ?_ :: .is ?_ :: .is ?_ :: .is ?_ :: .is ?_ :: .is ?_ :: .is ?_ :: .is ?_ :: .is ?_ :: .is ?_ :: .is ?_ :: .is ?_ :: .is ?_ :: .is ?_ :: .is ?_ :: .is ?_ :: .is ?_ :: .is ?_ :: .is ?_ :: .is ?_ :: .is ?_ :: []) rfl ?stb ?obb
      case stb => simp [Spec.ok]
      case obb =>
      intro env V hG
      obtain ⟨hc, hf⟩ := bcell hG
      repeat (refine obls_is ?_ ?_; unfold doesAt; go_simp; (try go_bits); (first | (refine ⟨brefl _, ?_⟩; rfl) | rfl); intro K hK; go_simp; refine hK _ ?_; clear hK K)
      refine obls_nil (fun _ => ?_)
      have HB2 := Lib.hid (Below.later HB.out hG)
      clear hc hf hG HB
      go_wp2
      refine hK _ _ (q - 1) (by omega) ⟨rfl, i + 1, by omega, HB2.out, ?_⟩
      repeat (first | exact fits_nil | refine fits_none ?_ | refine fits_some ?_)
  · obtain rfl : i = l.length := by omega
    clear hK hB
    go_wp2
    go_ret
    exact ⟨rfl, HB.out⟩

/-! ### The law -/
/-- While the given list is made. -/
structure KO (w W : World) (L : Int) (A : Option Addr) (n c : Nat) (v : Value) (l : List Nat) : Prop where
  bel : Below w.heap.size w W
  b0 : Blk W w.heap.size 24 #[.int .i64 L, .slice A n c]
  own : ListV W (w.heap.size + 1) l v
section
variable {w W W' : World} {L : Int} {A : Option Addr} {n c : Nat} {v : Value} {l : List Nat}
theorem KO.later (h : KO w W L A n c v l) (hb : Below W.heap.size W W') : KO w W' L A n c v l := ⟨Below.later h.bel hb, h.b0.later hb, own_later h.own hb⟩
theorem KO.grown {v' : Value} (h : KO w W L A n c v l) (i : Nat) (hg : W.grownBy W' v.ownBlock) (ho : W'.ownsRow (w.heap.size + 1) 3 1 v' (l.length + 1) (l.map encN ++ [.int .i64 (i : Int)])) : KO w W' L A n c v' (l ++ [i]) := by
  have hrow : ∀ k, v.ownBlock = some k → w.heap.size + 1 ≤ k := fun k hk => (h.own.lt k hk).1
  exact ⟨h.bel.trans ⟨hg.os, hg.tape, hg.output, hg.size, fun i hi => hg.block i (by have := h.bel.size; omega) (fun e => by have := hrow i e.symm; omega)⟩, h.b0.grown hg (h.b0.notRow h.own (by decide)), ListV.snoc ho (Nat.le_refl _)⟩
end
set_option maxRecDepth 100000 in
set_option maxHeartbeats 8000000 in
theorem kept_law (L : Int) (A : Option Addr) (n c : Nat) (rs : List Rg) (nb bits : Int) (w : World) (hs : Sl 2 encR w w.heap.size A n c rs) (hnb : 0 ≤ nb ∧ nb ≤ 255) (hbt : 0 ≤ bits ∧ bits ≤ 65535) :
    Calls Try.prog 13 #[.agg #[.int .i64 L, .slice A n c], .int .u8 nb, .int .u16 bits] w fun e w' => e = .returned (.bool true) ∧ Below w.heap.size w w' := by
  obtain rfl := hs.len
  obtain ⟨n, hn⟩ : ∃ n, rs.length = n := ⟨_, rfl⟩
  rw [hn] at hs ⊢
  have hB := balloc (brefl w) (.cells #[.int .i64 L, .slice A n c] 24)
  have HK0 := Lib.hid (show LW w (w.alloc (.cells #[.int .i64 L, .slice A n c] 24)) w.heap.size L A n c rs from ⟨hB, Blk.new w _ _, hs.later hB⟩)
  clear hB
  obtain ⟨c0, c1, c2⟩ := HK0.out.cells
  by_cases hy : yardE L rs = 0
  case neg =>
    have Hf := Lib.hid (fun W (h : Sl 2 encR W W.heap.size A n c rs) => fine_bad L A n c rs W h hy)
    clear hs hy
    go_enter Try.func13, Try.ntmps13
    go_wp2_with fail
    refine (Hf.out _ HK0.out.sl).mono ?_
    rintro e w1 ⟨rfl, hb⟩
    have HK1 := Lib.hid (HK0.out.later hb)
    clear hb HK0 c0 c1 c2
    obtain ⟨c0, c1, c2⟩ := HK1.out.cells
    go_wp2_with fail
    refine (works_any _).mono ?_
    rintro e we ⟨rfl, hbe⟩
    have HBE := Lib.hid (Below.later HK1.out.bel hbe)
    clear hbe
    go_wp2
    go_ret
    exact ⟨rfl, HBE.out⟩
  case pos =>
  have Hf := Lib.hid (fun W (h : Sl 2 encR W W.heap.size A n c rs) => fine_ok L A n c rs W h hy)
  obtain ⟨Ln, rfl, hLn, hr⟩ := yard_nat hy
  have Hy := Lib.hid hy
  have Hr := Lib.hid hr
  have Hs := Lib.hid hs
  have hn10 : n ≤ 10 := by rw [← hn]; exact hr.1
  have Hn := Lib.hid hn
  obtain ⟨ld, hld⟩ : ∃ ld, nb.tmod 10 = ld := ⟨_, rfl⟩
  have hld0 : 0 ≤ ld ∧ ld ≤ 9 := by rw [← hld, Int.tmod_eq_emod_of_nonneg hnb.1]; omega
  have i0 : IntKind.i64.wrap nb = nb := by rw [IntKind.wrap_i64]; omega
  have i1 : IntKind.i64.wrap ld = ld := by rw [IntKind.wrap_i64]; omega
  have i2 : IntKind.i64.wrap (ld + 1) = ld + 1 := by rw [IntKind.wrap_i64]; omega
  obtain ⟨v, hv⟩ : ∃ v, LA rs Ln 101 = v := ⟨_, rfl⟩
  have Hv := Lib.hid hv
  have hk1 := kept_is hr hLn.1 hld0.1
  have hk2 := kept_is (ld := ld + 1) hr hLn.1 (by omega)
  have he1 : keepE (Ln : Int) rs ld = 0 := by unfold keepE; rw [if_pos hy, (inR_iff 0 10 ld).2 (by omega)]; rfl
  have he2 : keepE (Ln : Int) rs (ld + 1) = 0 := by unfold keepE; rw [if_pos hy, (inR_iff 0 10 (ld + 1)).2 (by omega)]; rfl
  have hv1 : keepV (Ln : Int) rs ld = keptL rs Ln ld := by unfold keepV; rw [if_pos hy, (inR_iff 0 10 ld).2 (by omega), Int.toNat_natCast]; rfl
  have hv2 : keepV (Ln : Int) rs (ld + 1) = keptL rs Ln (ld + 1) := by unfold keepV; rw [if_pos hy, (inR_iff 0 10 (ld + 1)).2 (by omega), Int.toNat_natCast]; rfl
  obtain ⟨k, hk⟩ : ∃ k, keptL rs Ln ld = k := ⟨_, rfl⟩
  obtain ⟨l, hl⟩ : ∃ l, keptL rs Ln (ld + 1) = l := ⟨_, rfl⟩
  rw [hk] at hk1 hv1
  rw [hl] at hk2 hv2
  have hkl := hk1.more hk2
  have hall := hk1.all
  rw [hv, hn] at hall
  have hinc := hk1.inc
  rw [hn] at hinc
  obtain ⟨kl, hkk⟩ : ∃ kl, k.length = kl := ⟨_, rfl⟩
  obtain ⟨ll, hll⟩ : ∃ ll, l.length = ll := ⟨_, rfl⟩
  rw [hkk] at hkl hall
  rw [hll] at hkl
  have Hkk := Lib.hid hkk
  have Hll := Lib.hid hll
  have Hk1 := Lib.hid hk1
  have He1 := Lib.hid he1
  have He2 := Lib.hid he2
  have Hv1 := Lib.hid hv1
  have Hv2 := Lib.hid hv2
  have Hinc := Lib.hid hinc
  have hkl2 : ¬ ((ll : Int) < (kl : Int)) := by omega
  obtain ⟨bb, hb1, hb2, hb3⟩ : ∃ bb : Bool, decide ((kl : Int) = (n : Int)) = bb ∧ ((kl : Int) == (n : Int)) = bb ∧ decide (v ≤ ld) = bb := by
    by_cases h : kl = n
    · have h1 := hall.1 h
      refine ⟨true, by rw [h]; simp, by rw [h]; simp, by simpa using h1⟩
    · have h1 : ¬ (v ≤ ld) := fun h2 => h (hall.2 h2)
      refine ⟨false, by simp; omega, by simp; omega, by simpa using h1⟩
  clear hs hy hr hv hk1 hk2 he1 he2 hv1 hv2 hk hl hkl hall hinc hkk hll hn
  go_enter Try.func13, Try.ntmps13
  go_wp2_with fail
  refine (Hf.out _ HK0.out.sl).mono ?_
  rintro e w2 ⟨rfl, hb⟩
  have HK1 := Lib.hid (HK0.out.later hb)
  clear hb HK0 c0 c1 c2
  obtain ⟨c0, c1, c2⟩ := HK1.out.cells
  go_wp2_with fail
  refine (fewestL_any Ln A n c rs _ HK1.out.sl Hy.out).mono ?_
  rintro e w3 ⟨g1, hh, rfl, hb, _, _, _⟩
  have HK2 := Lib.hid (HK1.out.later hb)
  clear hb HK1 c0 c1 c2
  obtain ⟨c0, c1, c2⟩ := HK2.out.cells
  rw [Hv.out]
  go_wp2_with fail
  refine (keep_any (Ln : Int) A n c rs ld _ HK2.out.sl).mono ?_
  rintro e w4 ⟨v1, rfl, hb, ho⟩
  have HK3 := Lib.hid (HK2.out.later hb)
  clear hb HK2 c0 c1 c2
  obtain ⟨c0, c1, c2⟩ := HK3.out.cells
  rw [He1.out]
  rw [Hv1.out] at ho
  obtain ⟨G1, d1, rfl, hsl⟩ := listV_sl ho
  rw [Hkk.out] at hsl ⊢
  have HA3 := Lib.hid hsl
  clear ho hsl
  go_wp2_with fail
  refine (keep_any (Ln : Int) A n c rs (ld + 1) _ HK3.out.sl).mono ?_
  rintro e w5 ⟨v2, rfl, hb, ho⟩
  have HK4 := Lib.hid (HK3.out.later hb)
  have HA4 := Lib.hid (HA3.out.later hb)
  clear hb HK3 HA3 c0 c1 c2
  obtain ⟨c0, c1, c2⟩ := HK4.out.cells
  rw [He2.out]
  rw [Hv2.out] at ho
  obtain ⟨G2, d2, rfl, _⟩ := listV_sl ho
  rw [Hll.out]
  clear ho
  go_wp2_with fail
  refine (isList_any G1 kl d1 n k _ HA4.out Hinc.out (by omega)).mono ?_
  rintro e w6 ⟨rfl, hb⟩
  have HK5 := Lib.hid (HK4.out.later hb)
  have HA5 := Lib.hid (HA4.out.later hb)
  clear hb HK4 HA4 c0 c1 c2
  obtain ⟨c0, c1, c2⟩ := HK5.out.cells
  have HPk := Lib.hid (part_inc Hr.out Hk1.out.inc)
  have hkn : kl ≤ 100 := by have := Hinc.out.len; rw [Hkk.out] at this; omega
  go_wp2_with fail
  refine (refPart_any (Ln : Int) A n c rs G1 kl d1 k _ HK5.out.sl HA5.out (fun x hx => by rw [Hn.out]; exact Hinc.out.2 x hx) (by rw [Hkk.out]; exact hkn)).mono ?_
  rintro e w7 ⟨A3, c3, rfl, hb, hsl⟩
  have HK6 := Lib.hid (HK5.out.later hb)
  have HA6 := Lib.hid (HA5.out.later hb)
  clear hb HK5 HA5 c0 c1 c2
  obtain ⟨c0, c1, c2⟩ := HK6.out.cells
  have HP6 := Lib.hid hsl
  clear hsl
  go_wp2_with fail
  refine (fewestL_any Ln A3 kl c3 (partP rs k) _ HP6.out (yard_of (by omega) HPk.out)).mono ?_
  rintro e w8 ⟨g4, hh4, rfl, hb, _, _, _⟩
  have HK7 := Lib.hid (HK6.out.later hb)
  have HA7 := Lib.hid (HA6.out.later hb)
  have HP7 := Lib.hid (HP6.out.later hb)
  clear hb HK6 HA6 HP6 c0 c1 c2
  obtain ⟨c0, c1, c2⟩ := HK7.out.cells
  have hfit := Hk1.out.fit
  obtain ⟨mk, hmk⟩ : ∃ mk, LA (partP rs k) Ln 101 = mk := ⟨_, rfl⟩
  rw [hmk] at hfit ⊢
  clear hmk
  have HO := Lib.hid (show KO w w8 (Ln : Int) A n c (.slice none 0 0) [] from ⟨HK7.out.bel, HK7.out.b0, World.ownsRow_nil _ _ _ _⟩)
  go_wp2_with fail
  clear c0 c1 c2 HK7 HA7 HP7
  refine loop_n (fun q a W => a.defers = [] ∧ ∃ (i : Nat) (u : Value) (l : List Nat), i + q = n ∧ KO w W (Ln : Int) A n c u l ∧ IncL i l ∧ Fits (none :: none :: some (.int .u16 bits) :: some (.pointer (some ⟨w.heap.size, 0, none⟩)) :: none :: none :: none :: some (.int .i64 ld) :: none :: none :: some (.bool true) :: some (.slice G1 kl d1) :: none :: none :: none :: some (.int .i64 mk) :: none :: some (u) :: some (.int .i64 (i : Nat)) :: none :: none :: none :: none :: none :: none :: none :: none :: none :: none :: none :: none :: none :: none :: none :: none :: none :: none :: none :: none :: none :: none :: none :: none :: none :: none :: none :: none :: none :: none :: none :: none :: none :: none :: none :: none :: none :: none :: none :: none :: none :: none :: none :: none :: none :: none :: none :: none :: none :: none :: none :: none :: none :: none :: none :: none :: none :: none :: none :: none :: none :: none :: none :: none :: none :: none :: none :: none :: none :: none :: none :: none :: none :: none :: none :: none :: none :: none :: none :: none :: none :: none :: none :: none :: none :: none :: none :: none :: none :: none :: none :: none :: none :: none :: none :: none :: none :: none :: none :: none :: none :: none :: none :: none :: none :: none :: none :: none :: none :: none :: none :: none :: none :: none :: none :: none :: none :: none :: none :: none :: none :: none :: []) a.tmps.toList) n ?_ ?_
  · refine ⟨rfl, 0, _, [], by omega, HO.out, ⟨List.Pairwise.nil, by simp⟩, ?_⟩
    repeat (first | exact fits_nil | refine fits_none ?_ | refine fits_some ?_)
  clear HO
  intro q a W hI K hK
  obtain ⟨hds, i, u, l, hiq, hC, hinc, hfitf⟩ := hI
  obtain ⟨f', hf'⟩ := fits_act hfitf
  rw [hds] at hf'
  subst hf'
  clear hfitf hds
  simp only [fillP, Nat.reduceAdd]
  have c0 := hC.b0.cell 0
  have c1 := hC.b0.cell 1
  have c2 := hC.b0.lt
  have HC := Lib.hid hC
  have HI := Lib.hid hinc
  by_cases hlt : i < n
  · have j1 : (i : Int) < (n : Int) := by omega
    have j2 : (0 : Int) ≤ (i : Int) := by omega
    have j3 : IntKind.i64.wrap ((i : Int) + 1) = (i : Int) + 1 := by rw [IntKind.wrap_i64]; omega
    have HI2 := Lib.hid (show IncL (i + 1) l from ⟨hinc.1, fun x hx => by have := hinc.2 x hx; omega⟩)
    have hll : l.length ≤ 100 := by have := hinc.len; omega
    have HC2 := Lib.hid (hC.later (balloc (brefl W) (.cells #[.int .i64 (i : Int)] 3)))
    obtain ⟨i0', hi0, hz0, hz1, hz2⟩ := info_parts info_int
    clear hC hinc
    go_wp2_with (at_builtin; refine wpList_append_own _ rfl _ _ 44 rfl (w.heap.size + 1) 3 i0' (.int .i64 0) 1 8 und_ints hi0 hz0 hz1 hz2 rfl (by decide) u l.length _ rfl HC2.out.own ⟨W.heap.size, 0, none⟩ 1 1 [.int .i64 (i : Int)] rfl rfl (one_new W (.int .i64 (i : Int)) 3) (by simp [Value.oneCell']) (by simp only [maxLen]; omega) (by omega) (by have := HC2.out.bel.size; have := HC2.out.b0.lt; omega) ?_; intro v' W3 hown' hgr _; have HC3 := Lib.hid (HC2.out.grown i hgr hown'); clear hown' hgr)
    · have HI3 := Lib.hid (inc_snoc HI.out)
      refine hK _ _ (q - 1) (by omega) ⟨rfl, i + 1, v', l ++ [i], by omega, HC3.out, HI3.out, ?_⟩
      repeat (first | exact fits_nil | refine fits_none ?_ | refine fits_some ?_)
    · refine hK _ _ (q - 1) (by omega) ⟨rfl, i + 1, u, l, by omega, HC.out, HI2.out, ?_⟩
      repeat (first | exact fits_nil | refine fits_none ?_ | refine fits_some ?_)
  · obtain rfl : i = n := by omega
    obtain ⟨GO, dO, hu, hsl⟩ := listV_sl hC.own
    subst hu
    rw [← Hn.out] at hinc
    have HPo := Lib.hid (part_inc Hr.out hinc)
    have hmo := fun h => Hk1.out.most l hinc h
    rw [Hkk.out] at hmo
    have hol := hinc.len
    obtain ⟨o, ho⟩ : ∃ o, LA (partP rs l) Ln 101 = o := ⟨_, rfl⟩
    rw [ho] at hmo
    have Ho := Lib.hid ho
    obtain ⟨ol, hoo⟩ : ∃ ol, l.length = ol := ⟨_, rfl⟩
    have Hoo := Lib.hid hoo
    have Hol := Lib.hid hinc.2
    rw [hoo] at hsl hmo hol ⊢
    have hol2 : ol ≤ 100 := by rw [Hn.out] at hol; omega
    have HK0 := Lib.hid (show LW w W w.heap.size (Ln : Int) A i c rs from ⟨hC.bel, hC.b0, Hs.out.later hC.bel⟩)
    have HO0 := Lib.hid hsl
    have hfin : o ≤ ld → (ol : Int) ≤ (kl : Int) := fun h => by have := hmo (by omega); omega
    have Hfin := Lib.hid hfin
    clear hK hC hinc HI HC hsl hmo hol ho hoo hfin hlt hiq
    go_wp2_with fail
    refine (refPart_any (Ln : Int) A i c rs GO ol dO l _ HK0.out.sl HO0.out Hol.out (by rw [Hoo.out]; exact hol2)).mono ?_
    rintro e w9 ⟨A5, c5, rfl, hb, hsl⟩
    have HK1 := Lib.hid (HK0.out.later hb)
    have HO1 := Lib.hid (HO0.out.later hb)
    clear hb HK0 HO0 c0 c1 c2
    obtain ⟨c0, c1, c2⟩ := HK1.out.cells
    have HP1 := Lib.hid hsl
    clear hsl
    go_wp2_with fail
    refine (fewestL_any Ln A5 ol c5 (partP rs l) _ HP1.out (yard_of (by omega) HPo.out)).mono ?_
    rintro e w10 ⟨g6, hh6, rfl, hb, _, _, _⟩
    have HK2 := Lib.hid (HK1.out.later hb)
    have HO2 := Lib.hid (HO1.out.later hb)
    have HP2 := Lib.hid (HP1.out.later hb)
    clear hb HK1 HO1 HP1 c0 c1 c2
    obtain ⟨c0, c1, c2⟩ := HK2.out.cells
    rw [Ho.out]
    by_cases hol3 : ld < o
    · skip
      go_wp2_with fail
      refine (works_any _).mono ?_
      rintro e we ⟨rfl, hbe⟩
      have HBE := Lib.hid (Below.later HK2.out.bel hbe)
      clear hbe
      go_wp2
      go_ret
      exact ⟨rfl, HBE.out⟩
    · have hol4 := Hfin.out (by omega)
      go_wp2_with fail
      refine (works_any _).mono ?_
      rintro e we ⟨rfl, hbe⟩
      have HBE := Lib.hid (Below.later HK2.out.bel hbe)
      clear hbe
      go_wp2
      go_ret
      exact ⟨rfl, HBE.out⟩
end Go.Proofs.Ytbbdlebmagknmaa
