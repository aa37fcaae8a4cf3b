/- crossbandref02.Behind (f65): worths and counts from behind, at once. -/
import Derived.Test.YtjmphmnimnbgkaaCount
import Derived.Test.YtjmphmnimnbgkaaPath
import Derived.Test.YtjmphmnimnbgkaaRefPrices
import Derived.BigRegion
import Derived.Deep.DeepCutAuto
namespace Go.Proofs.Ytjmphmnimnbgkaa
open Go.RowKit Go.Shelf
attribute [local go_sem] Oper.semAt_some

/-! ### Plain: what stands while the kinds at a place are looked at -/
def refK (L : Nat) (F : Nat → Int) (ks : List Kd) (n k : Nat) : (Nat → Int) × (Nat → Int) :=
  refIn ks (L - 1 - n) (refStart (refAt L F ks n) (L - 1 - n)) ((List.range k).filter (canI L F ks (L - 1 - n)))
theorem refK_succ (L : Nat) (F : Nat → Int) (ks : List Kd) (n k : Nat) : refK L F ks n (k + 1) = if canI L F ks (L - 1 - n) k = true then refStep ks (L - 1 - n) (refK L F ks n k) k else refK L F ks n k := by
  unfold refK
  rw [List.range_succ, List.filter_append]
  by_cases h : canI L F ks (L - 1 - n) k = true
  · rw [if_pos h, List.filter_cons_of_pos h, List.filter_nil, refIn_snoc]
  · rw [if_neg h, List.filter_cons_of_neg h, List.filter_nil, List.append_nil]
theorem refK_all (L : Nat) (F : Nat → Int) (ks : List Kd) (n : Nat) : refK L F ks n ks.length = refAt L F ks (n + 1) := rfl
theorem refAt_M {L : Nat} {F : Nat → Int} {ks : List Kd} (hk : KOk ks) {n : Nat} (hn : n ≤ L) (j : Nat) (h1 : L ≤ j + n) (h2 : j ≤ L) : 0 ≤ (refAt L F ks n).2 j ∧ (refAt L F ks n).2 j ≤ 6 ^ (L - j) := by
  rw [refAt_many hk n hn j h1]
  have h := manyAt_ok (L := L) (F := F) hk (behindAt L F ks L) n hn
  exact ⟨h.lo j, h.hi j h2 h1⟩
theorem refK_ok {L : Nat} {F : Nat → Int} {ks : List Kd} (hk : KOk ks) (n k : Nat) : RefOk ks (L - 1 - n) (refAt L F ks n).1 (refAt L F ks n).2 ((List.range k).filter (canI L F ks (L - 1 - n))) (refK L F ks n k) := by
  have h := RefOk.all (L := L) (F := F) hk ((List.range k).filter (canI L F ks (L - 1 - n))) [] _ (RefOk.start ks (L - 1 - n) (refAt L F ks n).1 (refAt L F ks n).2) (fun j hj => by simpa using (List.mem_filter.1 hj).2)
  rw [List.nil_append] at h
  exact h
theorem refK_bdA {L : Nat} {F : Nat → Int} {ks : List Kd} (hk : KOk ks) {n : Nat} (hn : n < L) (hL : L ≤ 24) (k : Nat) (j : Nat) : 0 ≤ (refK L F ks n k).1 j ∧ (refK L F ks n k).1 j ≤ 24000 := by
  have hB : BdB L (refAt L F ks n).1 := by rw [refAt_worth hk n]; exact behindAt_bd hk n (by omega)
  rw [(refK_ok (L := L) (F := F) hk n k).worth]
  have h2 := hB (L - 1 - n + 1)
  have h3 := BdB.in_ (L := L) (F := F) hk ((List.range k).filter (canI L F ks (L - 1 - n))) (hB.upd (i := L - 1 - n) (v := (refAt L F ks n).1 (L - 1 - n + 1)) (by omega) (by omega)) (fun j hj => by simpa using (List.mem_filter.1 hj).2) j
  omega
theorem refK_bdM {L : Nat} {F : Nat → Int} {ks : List Kd} (hk : KOk ks) {n : Nat} (hn : n < L) (hL : L ≤ 24) {k : Nat} (hkl : k ≤ ks.length) (j : Nat) (h1 : L - 1 - n ≤ j) (h2 : j ≤ L) : 0 ≤ (refK L F ks n k).2 j ∧ (refK L F ks n k).2 j ≤ 4738381338321616896 := by
  have h24 : (6 : Int) ^ 24 = 4738381338321616896 := by decide
  have hm := pow6_mono (show L - j ≤ 24 from by omega)
  rw [h24] at hm
  have hR := refK_ok (L := L) (F := F) hk n k
  by_cases e : j = L - 1 - n
  · subst e
    rw [hR.many]
    have h := cntV_bd (L := L) (F := F) hk (i := L - 1 - n) (by omega) (A := (refAt L F ks n).1) (M := (refAt L F ks n).2) (fun j hj hj2 => refAt_M hk (by omega) j (by omega) hj2) (l := (List.range k).filter (canI L F ks (L - 1 - n))) (fun j hj => by simpa using (List.mem_filter.1 hj).2) (by have := List.length_filter_le (canI L F ks (L - 1 - n)) (List.range k); rw [List.length_range] at this; have := hk.2.1; omega) ((refK L F ks n k).1 (L - 1 - n))
    omega
  · rw [hR.oldM j e]
    have h := refAt_M (L := L) (F := F) hk (n := n) (by omega) j (by omega) h2
    omega

/-! ### The state -/
structure BS (w W : World) (L : Nat) (FA : Option Addr) (fn fc : Nat) (g1 g2 : Nat) (r : (Nat → Int) × (Nat → Int)) : Prop where
  bel : Below w.heap.size w W
  b0 : Blk W w.heap.size 24 #[.int .i64 L, .slice FA fn fc]
  b1 : Blk W g1 2 (numArr (L + 1) r.1)
  b2 : Blk W g2 2 (numArr (L + 1) r.2)
  n1 : w.heap.size < g1
  n2 : w.heap.size < g2
  ne : g1 ≠ g2
section
variable {w W W' : World} {L : Nat} {FA : Option Addr} {fn fc g1 g2 : Nat} {r : (Nat → Int) × (Nat → Int)}
theorem BS.later (h : BS w W L FA fn fc g1 g2 r) (hb : Below W.heap.size W W') : BS w W' L FA fn fc g1 g2 r := ⟨Below.later h.bel hb, h.b0.later hb, h.b1.later hb, h.b2.later hb, h.n1, h.n2, h.ne⟩
theorem BS.set1 (h : BS w W L FA fn fc g1 g2 r) (j : Nat) (v : Int) : BS w (W.setCell ⟨g1, j, none⟩ (.int .i64 v)) L FA fn fc g1 g2 (upd r.1 j v, r.2) := by
  have h1 := h.n1
  refine ⟨h.bel.setCell (by show w.heap.size ≤ g1; omega) _, h.b0.other (by show g1 ≠ _; omega) _, ?_, h.b2.other (by exact h.ne) _, h.n1, h.n2, h.ne⟩
  have := h.b1.set j (.int .i64 v); rwa [numArr_set] at this
theorem BS.set2 (h : BS w W L FA fn fc g1 g2 r) (j : Nat) (v : Int) : BS w (W.setCell ⟨g2, j, none⟩ (.int .i64 v)) L FA fn fc g1 g2 (r.1, upd r.2 j v) := by
  have h1 := h.n2
  refine ⟨h.bel.setCell (by show w.heap.size ≤ g2; omega) _, h.b0.other (by show g2 ≠ _; omega) _, h.b1.other (by exact h.ne.symm) _, ?_, h.n1, h.n2, h.ne⟩
  have := h.b2.set j (.int .i64 v); rwa [numArr_set] at this
theorem BS.num1 (h : BS w W L FA fn fc g1 g2 r) {j : Nat} (hj : j ≤ L) : W.cell? ⟨g1, j, none⟩ = some (.int .i64 (r.1 j)) := by rw [h.b1.cell, numArr_get (by omega)]
theorem BS.num2 (h : BS w W L FA fn fc g1 g2 r) {j : Nat} (hj : j ≤ L) : W.cell? ⟨g2, j, none⟩ = some (.int .i64 (r.2 j)) := by rw [h.b2.cell, numArr_get (by omega)]
theorem BS.drew (h : BS w W L FA fn fc g1 g2 r) : BS w W.drew L FA fn fc g1 g2 r := h.later (brefl W).drew
end

set_option maxRecDepth 100000 in
set_option maxHeartbeats 4000000 in
theorem behind_any (L : Nat) (FA : Option Addr) (fn fc : Nat) (fs : List Int) (KA : Option Addr) (kc : Nat) (ks : List Kd) (w : World) (hfs : Sl 1 encI w w.heap.size FA fn fc fs) (hks : Sl 3 encK w w.heap.size KA ks.length kc ks) (hL1 : 1 ≤ L) (hL2 : L ≤ 24) (hko : KOk ks) :
    Calls Try.prog 65 #[.agg #[.int .i64 L, .slice FA fn fc], .slice KA ks.length kc] w fun e w' => ∃ g1 g2, e = .returned (.tuple #[.slice (some ⟨g1, 0, none⟩) (L + 1) (L + 1), .slice (some ⟨g2, 0, none⟩) (L + 1) (L + 1)]) ∧ BS w w' L FA fn fc g1 g2 (refAt L (Fst fs L) ks L) := by
  have hmk := make_longs L (by omega)
  have jL : IntKind.i64.wrap ((L : Int) + 1) = (L : Int) + 1 := by rw [IntKind.wrap_i64]; omega
  have Hfs := Lib.hid hfs
  have Hks := Lib.hid hks
  have Hko := Lib.hid hko
  have hkl := hko.2.1
  clear hfs hks hko
  go_enter Try.func65, Try.ntmps65
  go_upto_region 1 with fail
  go_cut [6, 7] from 11 (fun s6 s7 wx => ∃ g1 g2, s6 = .slice (some ⟨g1, 0, none⟩) (L + 1) (L + 1) ∧ s7 = .slice (some ⟨g2, 0, none⟩) (L + 1) (L + 1) ∧ BS w wx L FA fn fc g1 g2 (fun _ => 0, fun _ => 0))
  case first =>
    have hst : BS w (((w.alloc (Obj.cells #[Value.int IntKind.i64 L, Value.slice FA fn fc] 24)).alloc (Obj.cells (numArr (L + 1) fun _ => 0) 2)).alloc (Obj.cells (numArr (L + 1) fun _ => 0) 2)) L FA fn fc (w.heap.size + 1) (w.heap.size + 1 + 1) (fun _ => 0, fun _ => 0) := by
      refine ⟨balloc (balloc (balloc (brefl w) _) _) _, ((Blk.new w _ _).alloc _).alloc _, ?_, ?_, by omega, by omega, by omega⟩
      · have h5 := (Blk.new (w.alloc (Obj.cells #[Value.int IntKind.i64 L, Value.slice FA fn fc] 24)) 2 (numArr (L + 1) fun _ => 0)).alloc (Obj.cells (numArr (L + 1) fun _ => 0) 2)
        rw [World.size_alloc] at h5
        exact h5
      · have h5 := Blk.new ((w.alloc (Obj.cells #[Value.int IntKind.i64 L, Value.slice FA fn fc] 24)).alloc (Obj.cells (numArr (L + 1) fun _ => 0) 2)) 2 (numArr (L + 1) fun _ => 0)
        rw [World.size_alloc, World.size_alloc] at h5
        exact h5
    have Hst := Lib.hid hst
    clear hst
    go_region
    · go_wp2_with fail
      go_meet
      exact ⟨_, _, rfl, rfl, Hst.out.drew⟩
    · go_wp2_with fail
      go_meet
      exact ⟨_, _, rfl, rfl, ⟨Hst.out.drew.bel, Hst.out.drew.b0, Hst.out.drew.b2, Hst.out.drew.b1, by omega, by omega, by omega⟩⟩
  case rest =>
    obtain ⟨g1, g2, rfl, rfl, hS⟩ := hcut
    have c0 := hS.b0.cell 0
    have z0 := hS.b0.lt
    have z2 := hS.b2.lt
    have m1 := hS.num2 (j := L) (by omega)
    have f1 : wc.frozen? ⟨g2, L, none⟩ = false := hS.b2.frozen _
    have i1 : (L : Int) < (L : Int) + 1 := by omega
    have jS := Lib.hid (hS.set2 L 1)
    have hne := hS.ne
    have hn1 := hS.n1
    have hn2 := hS.n2
    have c1 := (hS.set2 L 1).b0.cell 0
    clear hS
    go_wp2_with fail
    refine loop_n (fun n a W => a.defers = [] ∧ ∃ i : Nat, i + n = L ∧ BS w W L FA fn fc g1 g2 (refAt L (Fst fs L) ks i) ∧ Fits (none :: some (.slice KA ks.length kc) :: some (.pointer (some ⟨w.heap.size, 0, none⟩)) :: none :: none :: none :: some (.slice (some ⟨g1, 0, none⟩) (L + 1) (L + 1)) :: some (.slice (some ⟨g2, 0, none⟩) (L + 1) (L + 1)) :: some (.int .i64 ((L : Int) - 1 - (i : Nat))) :: none :: none :: none :: none :: none :: none :: none :: none :: none :: none :: none :: none :: none :: none :: none :: none :: none :: none :: none :: none :: none :: none :: none :: none :: none :: none :: none :: none :: none :: none :: none :: none :: none :: none :: none :: none :: none :: none :: none :: none :: none :: none :: none :: none :: none :: none :: none :: none :: none :: none :: none :: none :: none :: none :: none :: none :: none :: none :: none :: none :: none :: none :: none :: none :: none :: none :: none :: none :: none :: none :: none :: none :: none :: none :: none :: none :: none :: none :: none :: none :: none :: none :: none :: none :: none :: none :: none :: none :: none :: none :: none :: none :: none :: none :: none :: none :: none :: none :: none :: none :: none :: none :: none :: none :: []) a.tmps.toList) L ?_ ?_
    · refine ⟨rfl, 0, by omega, jS.out, ?_⟩
      rw [show (L : Int) - 1 - ((0 : Nat) : Int) = (L : Int) - 1 by omega]
      repeat (first | exact fits_nil | refine fits_none ?_ | refine fits_some ?_)
    clear c0 z0 z2 m1 f1 jS c1 i1 hmk jL
    clear wc
    intro n a W hI K hK
    obtain ⟨hds, i, hin, hS, hfit⟩ := hI
    obtain ⟨f, hf⟩ := fits_act hfit
    rw [hds] at hf
    subst hf
    clear hfit hds
    simp only [fillP, Nat.reduceAdd]
    by_cases hlt : i < L
    · obtain ⟨m, hmL⟩ : ∃ m, m = L - 1 - i := ⟨_, rfl⟩
      have jm : (L : Int) - 1 - (i : Int) = (m : Int) := by omega
      rw [jm]
      have n1a := hS.num1 (j := m + 1) (by omega)
      have n1b := hS.num1 (j := m) (by omega)
      have n2a := hS.num2 (j := m + 1) (by omega)
      have n2b := hS.num2 (j := m) (by omega)
      have f1 : W.frozen? ⟨g1, m, none⟩ = false := hS.b1.frozen _
      have f2 : W.frozen? ⟨g2, m, none⟩ = false := hS.b2.frozen _
      have z1 := hS.b1.lt
      have z2 := hS.b2.lt
      have j0 : (0 : Int) ≤ (m : Int) + 1 := by omega
      have j1 : (m : Int) + 1 < 25 := by omega
      have j2 : ((m : Int) + 1).toNat = m + 1 := by omega
      have j3 : (m : Int) < 25 := by omega
      have j4 : (m : Int) < (L : Int) + 1 := by omega
      have j5 : (m : Int) + 1 < (L : Int) + 1 := by omega
      have j6 : (0 : Int) ≤ (m : Int) := by omega
      have j7 : IntKind.i64.wrap ((m : Int) + 1) = (m : Int) + 1 := by rw [IntKind.wrap_i64]; omega
      have hne' : g2 ≠ g1 := fun h => hne h.symm
      have hS2 := (hS.set1 m ((refAt L (Fst fs L) ks i).1 (m + 1))).set2 m ((refAt L (Fst fs L) ks i).2 (m + 1))
      have HS2 := Lib.hid (show BS w ((W.setCell ⟨g1, m, none⟩ (.int .i64 ((refAt L (Fst fs L) ks i).1 (m + 1)))).setCell ⟨g2, m, none⟩ (.int .i64 ((refAt L (Fst fs L) ks i).2 (m + 1)))).drew L FA fn fc g1 g2 (refK L (Fst fs L) ks i 0) by
        have e : refK L (Fst fs L) ks i 0 = (upd (refAt L (Fst fs L) ks i).1 m ((refAt L (Fst fs L) ks i).1 (m + 1)), upd (refAt L (Fst fs L) ks i).2 m ((refAt L (Fst fs L) ks i).2 (m + 1))) := by
          rw [hmL]; rfl
        rw [e]
        exact hS2.drew)
      have HmL := Lib.hid hmL
      clear hS hS2 hmL
      go_wp2_with fail
      go_region
      go_wp2_with fail
      refine loop_n (fun n a W => a.defers = [] ∧ ∃ k : Nat, k + n = ks.length ∧ BS w W L FA fn fc g1 g2 (refK L (Fst fs L) ks i k) ∧ Fits (none :: some (.slice KA ks.length kc) :: some (.pointer (some ⟨w.heap.size, 0, none⟩)) :: none :: none :: none :: some (.slice (some ⟨g1, 0, none⟩) (L + 1) (L + 1)) :: some (.slice (some ⟨g2, 0, none⟩) (L + 1) (L + 1)) :: some (.int .i64 (m : Nat)) :: some (.int .i64 (k : Nat)) :: none :: none :: none :: none :: none :: none :: none :: none :: none :: none :: none :: none :: none :: none :: none :: none :: none :: none :: none :: none :: none :: none :: none :: none :: none :: none :: none :: none :: none :: none :: none :: none :: none :: none :: none :: none :: none :: none :: none :: none :: none :: none :: none :: none :: none :: none :: none :: none :: none :: none :: none :: none :: none :: none :: none :: none :: none :: none :: none :: none :: none :: none :: none :: none :: none :: none :: none :: none :: none :: none :: none :: none :: none :: none :: none :: none :: none :: none :: none :: none :: none :: none :: none :: none :: none :: none :: none :: none :: none :: none :: none :: none :: none :: none :: none :: none :: none :: none :: none :: none :: none :: none :: none :: []) a.tmps.toList) ks.length ?_ ?_
      · refine ⟨rfl, 0, by omega, HS2.out, ?_⟩
        repeat (first | exact fits_nil | refine fits_none ?_ | refine fits_some ?_)
      clear HS2 n1a n1b n2a n2b f1 f2 z1 z2 hne'
      clear W
      intro n2 a W hI K2 hK2
      obtain ⟨hds, k, hkm, hS, hfit⟩ := hI
      obtain ⟨f, hf⟩ := fits_act hfit
      rw [hds] at hf
      subst hf
      clear hfit hds
      simp only [fillP, Nat.reduceAdd]
      by_cases hlk : k < ks.length
      · have hS0 := hS
        obtain ⟨kb, ko, _, rfl, hkw, _, _, _, _⟩ := Hks.out.ltK hlk
        obtain ⟨kb', ko', x, hA', hkb, hx, q0, q1, q2⟩ := (Hks.out.later hS.bel).ltK hlk
        cases hA'
        have k1 : (k : Int) < (ks.length : Int) := by omega
        have k2 : (0 : Int) ≤ (k : Int) := by omega
        have k3 : IntKind.i64.wrap ((k : Int) + 1) = (k : Int) + 1 := by rw [IntKind.wrap_i64]; omega
        have hxb := Hko.out.bd hx
        have hcan := Lib.hid (fun W' (hb : Below W.heap.size W W') => refCan_any L FA fn fc fs x m W' (Hfs.out.later (hS.later hb).bel) hxb.1.1 hxb.1.2 (by omega) (by omega))
        have hci : canI L (Fst fs L) ks m k = canB L (Fst fs L) x m := canI_of hx
        have hgd : ks.getD k ⟨0, 0, 0⟩ = x := by simp [List.getD, hx]
        have hsn := refK_succ L (Fst fs L) ks i k
        rw [← HmL.out, hci] at hsn
        have hbA := refK_bdA (F := Fst fs L) Hko.out (n := i) hlt hL2 k
        have hbM := refK_bdM (F := Fst fs L) Hko.out (n := i) hlt hL2 (k := k) (by omega)
        have hbM2 := refK_bdM (F := Fst fs L) Hko.out (n := i) hlt hL2 (k := k + 1) (by omega) m (by have := HmL.out; omega) (by omega)
        rw [← HmL.out] at hbM
        obtain ⟨wd, hwd⟩ : ∃ wd : Nat, x.w = wd := ⟨x.w.toNat, by omega⟩
        have c0 := hS.b0.cell 0
        have c1 := hS.b0.cell 1
        have c2 := hS.b0.lt
        obtain ⟨r, hr⟩ : ∃ r, refK L (Fst fs L) ks i k = r := ⟨_, rfl⟩
        rw [hr] at hsn hS hS0 hbA hbM
        clear hr
        have HS := Lib.hid hS
        clear hS hS0
        cases hcb : canB L (Fst fs L) x m with
        | false =>
          rw [hcb] at hcan
          rw [hcb, if_neg (by simp)] at hsn
          have Hsn := Lib.hid hsn
          clear hci hcb hgd hx hwd hxb hbA hbM hbM2 hsn
          go_wp2_with fail
          refine dag 8 (by kernel_rfl) (by kernel_rfl) (.is ?_ :: .is ?_ :: .is ?_ :: .is ?_ :: .is ?_ :: .is ?_ :: .is ?_ :: .is ?_ :: []) rfl ?st1 ?ob1
          case st1 => simp [Spec.ok]
          case ob1 =>
            intro env W' hG
            obtain ⟨hc, hf⟩ := bcell hG
            iterate 6 (refine obls_is ?_ ?_; unfold doesAt; go_simp; (try go_bits); (first | (refine ⟨brefl _, ?_⟩; rfl) | rfl); intro K hK; go_simp; refine hK _ ?_; clear hK K)
            refine obls_is ?_ ?_
            · unfold doesAt
              go_simp
              refine (hcan.out W' hG).mono ?_
              rintro e w1 ⟨rfl, hb1⟩
              refine ⟨?_, hb1⟩
              rfl
            intro K hK
            go_simp
            refine hK _ ?_
            clear hK K
            (refine obls_is ?_ ?_; unfold doesAt; go_simp; (try go_bits); (first | (refine ⟨brefl _, ?_⟩; rfl) | rfl); intro K hK; go_simp; refine hK _ ?_; clear hK K)
            refine obls_nil (fun _ => ?_)
            have HR2 := Lib.hid (HS.out.later hG)
            clear hc hf hG
            go_wp2
            refine hK2 _ _ (n2 - 1) (by omega) ⟨rfl, k + 1, by omega, by rw [Hsn.out]; exact HR2.out, ?_⟩
            repeat (first | exact fits_nil | refine fits_none ?_ | refine fits_some ?_)
        | true =>
          rw [hcb] at hcan
          rw [hcb, if_pos rfl] at hsn
          have hle := (canB_iff.1 hcb).1
          rw [hwd] at hle
          have Hx := Lib.hid hx
          have Hwd := Lib.hid hwd
          obtain ⟨⟨w1', w2'⟩, ⟨p1, p2⟩, _⟩ := hxb
          have hnk : nK ks m r.1 k = x.p + r.1 (m + wd) := by unfold nK; rw [hgd, hwd]; rfl
          have hsn2 : refK L (Fst fs L) ks i (k + 1) = if r.1 m < x.p + r.1 (m + wd) then (upd r.1 m (x.p + r.1 (m + wd)), upd (upd r.2 m 0) m (r.2 (m + wd))) else if x.p + r.1 (m + wd) = r.1 m then (r.1, upd r.2 m (r.2 m + r.2 (m + wd))) else r := by
            rw [hsn]; unfold refStep; rw [hnk, hgd, hwd]; rfl
          obtain ⟨ea1, ea2⟩ := hbA m
          obtain ⟨eb1, eb2⟩ := hbA (m + wd)
          obtain ⟨ec1, ec2⟩ := hbM m (by omega) (by omega)
          obtain ⟨ed1, ed2⟩ := hbM (m + wd) (by omega) (by omega)
          have Hsn2 := Lib.hid hsn2
          clear hci hcb hgd hx hwd hsn hsn2 hbA hbM hnk
          go_wp2_with fail
          refine dag 8 (by kernel_rfl) (by kernel_rfl) (.is ?_ :: .is ?_ :: .is ?_ :: .is ?_ :: .is ?_ :: .is ?_ :: .is ?_ :: .is ?_ :: []) rfl ?st2 ?ob2
          case st2 => simp [Spec.ok]
          case ob2 =>
            intro env W' hG
            obtain ⟨hc, hf⟩ := bcell hG
            iterate 6 (refine obls_is ?_ ?_; unfold doesAt; go_simp; (try go_bits); (first | (refine ⟨brefl _, ?_⟩; rfl) | rfl); intro K hK; go_simp; refine hK _ ?_; clear hK K)
            refine obls_is ?_ ?_
            · unfold doesAt
              go_simp
              refine (hcan.out W' hG).mono ?_
              rintro e w1 ⟨rfl, hb1⟩
              refine ⟨?_, hb1⟩
              rfl
            intro K hK
            go_simp
            refine hK _ ?_
            clear hK K
            (refine obls_is ?_ ?_; unfold doesAt; go_simp; (try go_bits); (first | (refine ⟨brefl _, ?_⟩; rfl) | rfl); intro K hK; go_simp; refine hK _ ?_; clear hK K)
            refine obls_nil (fun _ => ?_)
            have hS := HS.out.later hG
            clear hc hf hG HS c0 c1 c2 q0 q1 q2 hcan hkb
            obtain ⟨kb', ko', x', hA', hkb', hx', q0, q1, q2⟩ := (Hks.out.later hS.bel).ltK hlk
            cases hA'
            rw [Hx.out] at hx'
            cases hx'
            rw [Hwd.out] at q0
            have n1a := hS.num1 (j := m + wd) (by omega)
            have n1b := hS.num1 (j := m) (by omega)
            have n2a := hS.num2 (j := m + wd) (by omega)
            have n2b := hS.num2 (j := m) (by omega)
            have f1 : W'.frozen? ⟨g1, m, none⟩ = false := hS.b1.frozen _
            have f2 : W'.frozen? ⟨g2, m, none⟩ = false := hS.b2.frozen _
            have z1 := hS.b1.lt
            have z2 := hS.b2.lt
            have hne' : g2 ≠ g1 := fun h => hne h.symm
            have a0 : (0 : Int) ≤ (m : Int) + (wd : Int) := by omega
            have a1 : (m : Int) + (wd : Int) < (L : Int) + 1 := by omega
            have a2 : ((m : Int) + (wd : Int)).toNat = m + wd := by omega
            have a3 : (m : Int) + (wd : Int) < 25 := by omega
            have a4 : IntKind.i64.wrap ((m : Int) + (wd : Int)) = (m : Int) + (wd : Int) := by rw [IntKind.wrap_i64]; omega
            have a7 : wd ≠ 0 := by have := Hwd.out; omega
            have a8 : IntKind.i64.wrap (0 + r.2 (m + wd)) = r.2 (m + wd) := by rw [IntKind.wrap_i64]; omega
            have a9 : IntKind.i64.wrap (r.2 (m + wd)) = r.2 (m + wd) := by rw [IntKind.wrap_i64]; omega
            have hk1 : kb ≠ g1 := by omega
            have hk2 : kb ≠ g2 := by omega
            have a5 : IntKind.i64.wrap (x.p + r.1 (m + wd)) = x.p + r.1 (m + wd) := by rw [IntKind.wrap_i64]; omega
            have HS := Lib.hid hS
            clear hS
            by_cases h1 : r.1 m < x.p + r.1 (m + wd)
            · have d1 : decide (r.1 m < x.p + r.1 (m + wd)) = true := by simpa using h1
              have d2 : decide (x.p + r.1 (m + wd) ≤ r.1 m) = false := by simp; omega
              have hsn := Hsn2.out
              rw [if_pos h1] at hsn
              have Hsn := Lib.hid hsn
              have H3 := Lib.hid ((HS.out.set1 m (x.p + r.1 (m + wd))).set2 m 0)
              clear hsn Hsn2 h1
              go_wp2_with fail
              go_region
              go_wp2_with fail
              go_region
              go_wp2
              refine hK2 _ _ (n2 - 1) (by omega) ⟨rfl, k + 1, by omega, by rw [Hsn.out]; exact (H3.out.set2 m (r.2 (m + wd))).drew.drew, ?_⟩
              repeat (first | exact fits_nil | refine fits_none ?_ | refine fits_some ?_)
            · by_cases h2 : x.p + r.1 (m + wd) = r.1 m
              · have d1 : decide (r.1 m < x.p + r.1 (m + wd)) = false := by simpa using h1
                have d2 : decide (x.p + r.1 (m + wd) ≤ r.1 m) = true := by simp; omega
                have d3 : (x.p + r.1 (m + wd) == r.1 m) = true := by simpa using h2
                have hsn := Hsn2.out
                rw [if_neg h1, if_pos h2] at hsn
                have a6 : IntKind.i64.wrap (r.2 m + r.2 (m + wd)) = r.2 m + r.2 (m + wd) := by
                  rw [hsn] at hbM2
                  simp only [upd, if_true] at hbM2
                  rw [IntKind.wrap_i64]; omega
                have Hsn := Lib.hid hsn
                have H3 := Lib.hid (HS.out.set2 m (r.2 m + r.2 (m + wd)))
                clear hsn Hsn2 h1 h2 hbM2
                go_wp2_with fail
                go_region
                go_wp2_with fail
                go_region
                go_wp2
                refine hK2 _ _ (n2 - 1) (by omega) ⟨rfl, k + 1, by omega, by rw [Hsn.out]; exact H3.out.drew.drew, ?_⟩
                repeat (first | exact fits_nil | refine fits_none ?_ | refine fits_some ?_)
              · have d1 : decide (r.1 m < x.p + r.1 (m + wd)) = false := by simpa using h1
                have d2 : decide (x.p + r.1 (m + wd) ≤ r.1 m) = true := by simp; omega
                have d3 : (x.p + r.1 (m + wd) == r.1 m) = false := by simpa using h2
                have hsn := Hsn2.out
                rw [if_neg h1, if_neg h2] at hsn
                have Hsn := Lib.hid hsn
                clear hsn Hsn2 h1 h2 hbM2
                go_wp2_with fail
                go_region
                go_wp2
                refine hK2 _ _ (n2 - 1) (by omega) ⟨rfl, k + 1, by omega, by rw [Hsn.out]; exact HS.out.drew, ?_⟩
                repeat (first | exact fits_nil | refine fits_none ?_ | refine fits_some ?_)
      · obtain rfl : k = ks.length := by omega
        rw [refK_all] at hS
        have HS := Lib.hid hS
        clear hS hK2
        go_wp2_with fail
        refine hK _ _ (n - 1) (by omega) ⟨rfl, i + 1, by omega, HS.out, ?_⟩
        rw [show (L : Int) - 1 - ((i + 1 : Nat) : Int) = (m : Int) - 1 by omega]
        repeat (first | exact fits_nil | refine fits_none ?_ | refine fits_some ?_)
    · obtain rfl : L = i := by omega
      have hd : (L : Int) - 1 - (L : Int) = -1 := by omega
      have HS := Lib.hid hS
      clear hS hK
      go_wp2
      go_ret2
      exact ⟨g1, g2, rfl, HS.out⟩
end Go.Proofs.Ytjmphmnimnbgkaa
