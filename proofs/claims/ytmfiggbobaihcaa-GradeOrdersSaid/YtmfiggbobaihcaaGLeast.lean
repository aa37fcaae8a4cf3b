/- The store's least and worth. -/
import Derived.Test.YtmfiggbobaihcaaGTie
namespace Go.Proofs.Ytmfiggbobaihcaa
open Go.RowKit Go.Shelf

/-- A shop of n grades whose numbers are in bounds. -/
structure ShOk (n : Nat) (P : List Int) (O : List Od) (M : Nat → Int) (b : Int) : Prop where
  n1 : 1 ≤ n
  n5 : n ≤ 5
  oin : OIn n O
  len : P.length = n
  prc : ∀ x ∈ P, 0 ≤ x ∧ x ≤ 100
  fall : ∀ j x y, P[j]? = some x → P[j + 1]? = some y → y ≤ x
  stk : ∀ j, 0 ≤ M j ∧ M j ≤ b
theorem Fine.ok {S P : List Int} {O : List Od} (h : Fine S P O) : ShOk S.length P O (stockM S) 50 :=
  ⟨h.n1, h.n5, h.oin, h.len, h.prc, h.fall, fun j => by
    unfold stockM
    rw [List.getD_eq_getElem?_getD]
    cases hx : S[j]? with
    | none => exact ⟨by simp, by simp⟩
    | some x => simpa using h.stk x (List.mem_of_getElem? hx)⟩
theorem ShOk.more {n : Nat} {P : List Int} {O : List Od} {M : Nat → Int} {b b' : Int} (h : ShOk n P O M b) (hb : b ≤ b') : ShOk n P O M b' := ⟨h.n1, h.n5, h.oin, h.len, h.prc, h.fall, fun j => ⟨(h.stk j).1, Int.le_trans (h.stk j).2 hb⟩⟩
/-- Prices, by numbers of grades. -/
def prM (P : List Int) : Nat → Int := fun j => P.getD j 0
/-- What is spent of each grade, and the least cost. -/
def spV (n : Nat) (O : List Od) (M : Nat → Int) : Nat → Int := Gr9.spentT M (aO O) n
def leV (n : Nat) (P : List Int) (O : List Od) (M : Nat → Int) : Int := Gr9.leastT (prM P) M (aO O) n
theorem costL_F (P : List Int) (F : Nat → Int) : ∀ n : Nat, costL P F n = Gr9.costF (prM P) F n
  | 0 => rfl
  | n + 1 => by
    show costL P F n + P.getD n 0 * F n = Gr9.pre (fun g => prM P g * F g) n + prM P n * F n
    rw [costL_F P F n]; rfl
theorem costL_leV {n : Nat} {P : List Int} {O : List Od} {M F : Nat → Int} (hF : ∀ g, g < n → F g = spV n O M g) : costL P F n = leV n P O M := by
  unfold leV
  rw [costL_F, ← Gr9.least_cost]
  exact Gr9.pre_congr n fun g hg => by rw [hF g hg]; rfl
section
variable {n : Nat} {P : List Int} {O : List Od} {M : Nat → Int} {b : Int}
theorem ShOk.pr0 (h : ShOk n P O M b) : ∀ j, j < n → 0 ≤ prM P j := fun j hj => by
  have hx := List.getElem?_eq_getElem (show j < P.length by have := h.len; omega)
  unfold prM
  rw [sl_getD hx]
  exact (h.prc _ (List.getElem_mem _)).1
theorem ShOk.prf (h : ShOk n P O M b) : ∀ j, j + 1 < n → prM P (j + 1) ≤ prM P j := fun j hj => by
  have hx := List.getElem?_eq_getElem (show j < P.length by have := h.len; omega)
  have hy := List.getElem?_eq_getElem (show j + 1 < P.length by have := h.len; omega)
  unfold prM
  rw [sl_getD hx, sl_getD hy]
  exact h.fall j _ _ hx hy
theorem sumF_nonneg {f : Nat → Int} (h : ∀ i, 0 ≤ f i) (n : Nat) : 0 ≤ sumF f n := by rw [sumF_pre]; exact Gr9.pre_nonneg h n
/-- What is given is from 0 to 160. -/
theorem spV_bound (h : ShOk n P O M b) {g : Nat} (hg : g < n) : 0 ≤ spV n O M g ∧ spV n O M g ≤ 160 := by
  have hT := fun g (hg : g < n) => Gr9.mostG_is M (aO O) (show g ≤ n by omega)
  have hm : ∀ k, k < n → Gr9.mostG M (aO O) n k ≤ 160 := fun k hk => by
    rcases (hT k hk).is with e | ⟨m, h1, h2, e⟩
    · omega
    · have h3 : 0 ≤ aO O m ∧ aO O m ≤ 20 * O.length := askI_bound O (m : Int) fun o ho => (h.oin.2 o ho).2
      have h4 := Gr9.pre_mono (fun i => (h.stk i).1) (show k + 1 ≤ m + 1 by omega)
      have h5 := h.oin.1
      omega
  have hge : ∀ k, k + 1 < n → Gr9.mostG M (aO O) n k ≤ Gr9.mostG M (aO O) n (k + 1) := fun k hk => by
    rcases (hT k (by omega)).is with e | ⟨m, h1, h2, e⟩
    · have := (hT (k + 1) hk).pos; omega
    · by_cases c : m = k
      · subst c
        have h3 := (hT (m + 1) hk).ge (m + 1) (Nat.le_refl _) hk
        have h4 : aO O m ≤ aO O (m + 1) := by
          rw [← ask_eq h.oin, ← ask_eq h.oin]
          refine Gr9.pre_le _ fun i hi => ?_
          have := (h.oin.at_ hi).2.1
          by_cases c1 : grO O i ≤ m
          · rw [if_pos c1, if_pos (by omega)]; exact Int.le_refl _
          · rw [if_neg c1]
            split <;> omega
        omega
      · have h3 := (hT (k + 1) hk).ge m (by omega) h2
        have h4 : Gr9.pre M (k + 1 + 1) = Gr9.pre M (k + 1) + M (k + 1) := rfl
        have h5 := (h.stk (k + 1)).1
        omega
  unfold spV Gr9.spentT
  cases g with
  | zero => have := (hT 0 hg).pos; have := hm 0 hg; simp only; omega
  | succ k => have := hge k hg; have := hm (k + 1) hg; have := (hT k (by omega)).pos; simp only; omega
theorem leV_bound (h : ShOk n P O M b) : 0 ≤ leV n P O M ∧ leV n P O M ≤ 500000 := by
  rw [← costL_leV (F := spV n O M) (fun _ _ => rfl)]
  have h1 := costL_bound (F := spV n O M) h.prc n fun j hj => by have := spV_bound h hj; omega
  have := h.n5
  omega
end
set_option maxHeartbeats 1000000 in
theorem spentV_any {n : Nat} (T : Nat) (SA : Option Addr) (sn sc : Nat) (PA : Option Addr) (pn pc : Nat) (OA : Option Addr) (on oc : Nat) (S P : List Int) (O : List Od) (M : Nat → Int) (w : World) (hs : StIn w T SA sn sc PA pn pc OA on oc S P O M) (hk : ShOk n P O M 150) (hc : canB n O M = true) :
    Calls Try.prog 67 #[.pointer (some ⟨T, 0, none⟩)] w fun e w' => ∃ G : Nat → Int, e = .returned (.agg (ctsA G)) ∧ Below w.heap.size w w' ∧ (∀ g, g < n → G g = spV n O M g) ∧ ∀ j, j < 5 → 0 ≤ G j ∧ G j ≤ 1000 := by
  have hOO := hk.oin.ok hk.n5
  have hM : ∀ j, j < 5 → 0 ≤ M j ∧ M j ≤ 150 := fun j _ => hk.stk j
  refine (spent_any T _ _ _ _ _ _ _ _ _ S P O M w hs hOO hM).mono ?_
  rintro e w' ⟨l, F, rfl, hb, hp, hsrt, hF⟩
  have hl : Ordl O l := ⟨hp, hsrt⟩
  refine ⟨gotG F, rfl, hb, fun g hg => ?_, fun j _ => ?_⟩
  · rw [gotG_clean hF, got_spent hl hk.oin (fun j => (hk.stk j).1) hc hg]
    rfl
  · have := gotG_bound (F := F) (fun f k v hv => by
      rw [hF] at hv
      split at hv
      · cases hv
      · exact giveG_ord hOO hM l (fun i hi => hl.lt hi) f k v hv) j
    omega
set_option maxHeartbeats 1000000 in
theorem least_any {n : Nat} (T : Nat) (SA : Option Addr) (sn sc : Nat) (PA : Option Addr) (pn pc : Nat) (OA : Option Addr) (on oc : Nat) (S P : List Int) (O : List Od) (M : Nat → Int) (w : World) (hs : StIn w T SA sn sc PA pn pc OA on oc S P O M) (hk : ShOk n P O M 150) (hc : canB n O M = true) :
    Calls Try.prog 70 #[.pointer (some ⟨T, 0, none⟩)] w fun e w' => e = .returned (.int .i64 (leV n P O M)) ∧ Below w.heap.size w w' := by
  have HO0 := Lib.hid hs
  have HB0 := Lib.hid (Bel.start w)
  have Hk := Lib.hid hk
  have Hc := Lib.hid hc
  have Hsp := Lib.hid (fun W (h : StIn W T SA sn sc PA pn pc OA on oc S P O M) => spentV_any T SA sn sc PA pn pc OA on oc S P O M W h hk hc)
  have Hco := Lib.hid (fun W (h : StIn W T SA sn sc PA pn pc OA on oc S P O M) G hG => cost_any T SA sn sc PA pn pc OA on oc S P O M G W h (by rw [hk.len]; exact hk.n5) hk.prc hG)
  clear hs hk hc
  go_enter Try.func70, Try.ntmps70
  obtain ⟨o0, o1, o2, o3⟩ := HO0.out.cells
  go_wp2_with fail
  refine (Hsp.out _ HO0.out).mono ?_
  rintro e w1 ⟨G, rfl, hb, hg, hgb⟩
  have HO1 := Lib.hid (HO0.out.later hb)
  have HB1 := Lib.hid (HB0.out.later hb)
  clear hb HO0 HB0 o0 o1 o2 o3
  obtain ⟨o0, o1, o2, o3⟩ := HO1.out.cells
  have HG := Lib.hid hg
  have HGb := Lib.hid hgb
  clear hg hgb
  go_wp2_with fail
  refine (Hco.out _ HO1.out G HGb.out).mono ?_
  rintro e w2 ⟨rfl, hb⟩
  have HO2 := Lib.hid (HO1.out.later hb)
  have HB2 := Lib.hid (HB1.out.later hb)
  clear hb HO1 HB1 o0 o1 o2 o3
  obtain ⟨o0, o1, o2, o3⟩ := HO2.out.cells
  go_wp2
  go_ret
  exact ⟨ret_int (by rw [Hk.out.len]; exact costL_leV HG.out), HB2.out.b⟩

/-- A store with one more sheet of a grade. -/
theorem sto_set (SA : Option Addr) (sn sc : Nat) (PA : Option Addr) (pn pc : Nat) (OA : Option Addr) (on oc : Nat) (M : Nat → Int) {g : Nat} (hg : g < 5) (v : Int) : (stoC SA sn sc PA pn pc OA on oc M).setIfInBounds (3 + g) (.int .i64 v) = stoC SA sn sc PA pn pc OA on oc (Gr9.upd M g v) := by
  rcases g with _ | _ | _ | _ | _ | g
  · rfl
  · rfl
  · rfl
  · rfl
  · rfl
  · omega
theorem can_upd {n : Nat} {O : List Od} {M : Nat → Int} (hc : canB n O M = true) (g : Nat) (d : Int) (hd : 0 ≤ d) : canB n O (Gr9.upd M g (M g + d)) = true := by
  rw [canB_iff] at hc ⊢
  intro k hk
  have h1 := hc k hk
  unfold shortI at h1 ⊢
  rw [sumN_pre] at h1 ⊢
  rw [Gr9.pre_more]
  split <;> omega
theorem ShOk.upd {n : Nat} {P : List Int} {O : List Od} {M : Nat → Int} {b : Int} (h : ShOk n P O M b) (g : Nat) (d : Int) (hd : 0 ≤ d) : ShOk n P O (Gr9.upd M g (M g + d)) (b + d) := ⟨h.n1, h.n5, h.oin, h.len, h.prc, h.fall, fun j => by
  have h1 := h.stk j
  unfold Gr9.upd
  split
  · rename_i e; subst e; omega
  · omega⟩
/-- What one more sheet of a grade is worth. -/
def woV (n : Nat) (P : List Int) (O : List Od) (M : Nat → Int) (g : Nat) : Int := leV n P O M - leV n P O (Gr9.upd M g (M g + 1))
set_option maxHeartbeats 4000000 in
theorem worth_any {n : Nat} (T g : Nat) (SA : Option Addr) (sn sc : Nat) (PA : Option Addr) (pn pc : Nat) (OA : Option Addr) (on oc : Nat) (S P : List Int) (O : List Od) (M : Nat → Int) (w : World) (hs : StIn w T SA sn sc PA pn pc OA on oc S P O M) (hk : ShOk n P O M 100) (hc : canB n O M = true) (hg : g < n) :
    Calls Try.prog 76 #[.pointer (some ⟨T, 0, none⟩), .int .i64 (g : Int)] w fun e w' => e = .returned (.int .i64 (woV n P O M g)) ∧ Below w.heap.size w w' := by
  have h5 := hk.n5
  have hM := hk.stk g
  have hb := balloc (brefl w) (.cells (stoC SA sn sc PA pn pc OA on oc M) 83)
  have hX := Blk.new w 83 (stoC SA sn sc PA pn pc OA on oc M)
  have hXs := Blk.new w 83 (stoC SA sn sc PA pn pc OA on oc (Gr9.upd M g (M g + 1)))
  have he := sto_set SA sn sc PA pn pc OA on oc M (g := g) (by omega) (M g + 1)
  have hbs := balloc (brefl w) (.cells (stoC SA sn sc PA pn pc OA on oc (Gr9.upd M g (M g + 1))) 83)
  have HO0 := Lib.hid (hs.later hbs)
  have HB0 := Lib.hid ((Bel.start w).later hbs)
  have HY0 := Lib.hid (show StIn _ w.heap.size SA sn sc PA pn pc OA on oc S P O (Gr9.upd M g (M g + 1)) from ⟨hXs, (hs.later hbs).sh⟩)
  have Hle := Lib.hid (fun W (h : StIn W T SA sn sc PA pn pc OA on oc S P O M) => least_any T SA sn sc PA pn pc OA on oc S P O M W h (hk.more (by omega)) hc)
  have Hle2 := Lib.hid (fun W (h : StIn W w.heap.size SA sn sc PA pn pc OA on oc S P O (Gr9.upd M g (M g + 1))) => least_any w.heap.size SA sn sc PA pn pc OA on oc S P O _ W h ((hk.upd g 1 (by omega)).more (by omega)) (can_upd hc g 1 (by omega)))
  have hv := leV_bound hk
  have hv2 := leV_bound (hk.upd g 1 (by omega))
  have hq : (stoC SA sn sc PA pn pc OA on oc M)[3 + g]? = some (.int .i64 (M g)) := (hX.cell (3 + g)).symm.trans (StIn.stock (W := w.alloc (.cells (stoC SA sn sc PA pn pc OA on oc M) 83)) (T := w.heap.size) (S := S) (P := P) (O := O) ⟨hX, hs.sh.later hb⟩ (by omega))
  have t0 := hs.b0.cell 0
  have t1 := hs.b0.cell 1
  have t2 := hs.b0.cell 2
  have t3 := hs.b0.cell 3
  have t4 := hs.b0.cell 4
  have t5 := hs.b0.cell 5
  have t6 := hs.b0.cell 6
  have t7 := hs.b0.cell 7
  have i1 : (g : Int) < 5 := by omega
  have i2 : (0 : Int) ≤ (g : Int) := by omega
  have i3 : IntKind.i64.wrap (M g + 1) = M g + 1 := by rw [IntKind.wrap_i64]; omega
  have i4 : IntKind.i64.wrap (leV n P O M - leV n P O (Gr9.upd M g (M g + 1))) = woV n P O M g := by rw [IntKind.wrap_i64]; unfold woV; omega
  generalize leV n P O M = v1 at *
  generalize leV n P O (Gr9.upd M g (M g + 1)) = v2 at *
  generalize woV n P O M g = v3 at *
  have He := Lib.hid he
  clear hs hk hc hX hXs hb hbs hv hv2 hM h5 he
  unfold stoC at hq He t0 t1 t2 t3 t4 t5 t6 t7
  go_enter Try.func76, Try.ntmps76
  obtain ⟨o0, o1, o2, o3⟩ := HO0.out.cells
  go_wp2_with fail
  have he := He.out
  simp only [List.setIfInBounds_toArray] at he
  rw [he]
  clear he
  refine (Hle.out _ HO0.out).mono ?_
  rintro e w1 ⟨rfl, hb⟩
  have HO1 := Lib.hid (HO0.out.later hb)
  have HB1 := Lib.hid (HB0.out.later hb)
  have HY1 := Lib.hid (HY0.out.later hb)
  clear hb HO0 HB0 HY0 o0 o1 o2 o3
  obtain ⟨o0, o1, o2, o3⟩ := HO1.out.cells
  go_wp2_with fail
  refine (Hle2.out _ HY1.out).mono ?_
  rintro e w2 ⟨rfl, hb⟩
  have HB2 := Lib.hid (HB1.out.later hb)
  clear hb HO1 HB1 HY1 o0 o1 o2 o3
  go_wp2
  go_ret
  exact ⟨rfl, HB2.out.b⟩
end Go.Proofs.Ytmfiggbobaihcaa
