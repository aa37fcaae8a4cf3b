/- The hours and the proof that are returned are right, and have as many loads. No program. -/
import Derived.Test.YtbbdlebmagknmaaSApi2
import Derived.Test.YtbbdlebmagknmaaSApi3
import Derived.Test.YtbbdlebmagknmaaSEarly
namespace Go.Proofs.Ytbbdlebmagknmaa
open Go.RowKit Go.Shelf

theorem asg_other : ∀ (ps : List (Nat × Int)) (H : Nat → Int) (k : Nat), (∀ p ∈ ps, p.1 ≠ k) → asg ps H k = H k
  | [], _, _, _ => rfl
  | p :: ps, H, k, h => by
    have h1 := asg_other ps (updN H p.1 p.2) k (fun q hq => h q (by simp [hq]))
    show asg ps (updN H p.1 p.2) k = H k
    rw [h1]
    unfold updN
    rw [if_neg (fun e => h p (by simp) e.symm)]
theorem asg_at : ∀ (ps : List (Nat × Int)) (H : Nat → Int), (ps.map (·.1)).Nodup → ∀ p ∈ ps, asg ps H p.1 = p.2
  | [], _, _, p, hp => by simp at hp
  | q :: ps, H, hn, p, hp => by
    rw [List.map_cons, List.nodup_cons] at hn
    show asg ps (updN H q.1 q.2) p.1 = p.2
    rcases List.mem_cons.1 hp with rfl | hp
    · rw [asg_other ps _ p.1 (fun r hr e => hn.1 (by rw [← e]; exact List.mem_map.2 ⟨r, hr, rfl⟩))]
      simp [updN]
    · exact asg_at ps _ hn.2 p hp
theorem up_nat (n L : Nat) (hL : 1 ≤ L) : upI (n : Int) (L : Int) = (Fill.upN n L : Nat) := by
  unfold upI Fill.upN
  rw [show ((n : Int) + (L : Int) - 1) = ((n + L - 1 : Nat) : Int) by omega]
  rfl
theorem loads_nat (L : Nat) (hL : 1 ≤ L) (hs : List Int) : ∀ t, loadsTo (L : Int) hs t = (((List.range t).map fun t : Nat => Fill.upN (hs.countP fun h => decide (h = (t : Int))) L).sum : Nat)
  | 0 => rfl
  | t + 1 => by
    rw [loadsTo, loads_nat L hL hs t, List.range_succ, List.map_append, List.sum_append]
    unfold cntP
    rw [up_nat _ L hL]
    simp
theorem loads_perm (L : Nat) (hL : 1 ≤ L) {hs hs' : List Int} (h : hs.Perm hs') : loadsP (L : Int) hs = loadsP (L : Int) hs' := by
  unfold loadsP
  rw [loads_nat L hL, loads_nat L hL]
  congr 3
  funext t
  rw [h.countP_eq]
/-- **The hours that are returned are right, and have the fewest loads.** -/
theorem fill_hours {rs : List Rg} {L : Nat} {l : List Nat} {ts : List Int} {H : Nat → Int} (h : FillOk rs L l ts H) (hr : RsOk rs) (hL : 1 ≤ L ∧ L ≤ 10) : hoursE (L : Int) rs ((List.range rs.length).map H) = 0 ∧ hoursV (L : Int) rs ((List.range rs.length).map H) = LA rs L 101 := by
  have hb : ∀ x ∈ List.range rs.length, 0 ≤ loAt rs x ∧ loAt rs x ≤ hiAt rs x ∧ hiAt rs x ≤ 100 := fun x hx => hr.at_ (List.mem_range.1 hx)
  have hlen : l.length = rs.length := by rw [h.perm.length_eq, List.length_range]
  obtain ⟨ps, hps⟩ : ∃ ps, Fill.fillA (loAt rs) (hiAt rs) L rs.length l = ps := ⟨_, rfl⟩
  have hright := Fill.fillA_right (loAt rs) (hiAt rs) L rs.length l h.srt
  have hall := fun q : Nat → Bool => Fill.fillA_all (loAt rs) (hiAt rs) L hL.1 q rs.length l (by omega) (fun x hx => (hb x (h.perm.mem_iff.1 hx)).2.1)
  have hld := Fill.fill_loads (loAt rs) (hiAt rs) L hL.1 (List.range rs.length) l hb h.srt (fun x hx => h.perm.mem_iff.1 hx) (fun p => h.perm.countP_eq p) rs.length (by omega)
  rw [hps] at hright hall hld
  rw [← h.ts_eq] at hld
  have hH := h.hrs
  rw [hps] at hH
  have hperm : (ps.map (·.1)).Perm (List.range rs.length) := by
    refine List.Perm.trans ?_ h.perm
    rw [List.perm_iff_count]
    intro a
    have h1 := hall (fun x => x == a)
    unfold List.count
    rw [List.countP_map]
    exact h1
  have hnd : (ps.map (·.1)).Nodup := hperm.nodup_iff.2 List.nodup_range
  have hat : ∀ p ∈ ps, H p.1 = p.2 := fun p hp => by rw [hH]; exact asg_at ps _ hnd p hp
  have hmap : ((List.range rs.length).map H).Perm (ps.map (·.2)) := by
    have h1 : ps.map (·.2) = (ps.map (·.1)).map H := by
      rw [List.map_map]
      exact List.map_congr_left fun p hp => (hat p hp).symm
    rw [h1]
    exact (hperm.map H).symm
  have hE : hoursE (L : Int) rs ((List.range rs.length).map H) = 0 := by
    unfold hoursE
    rw [if_pos (yard_of (by omega) hr), if_pos (by simp), if_neg]
    intro ha
    obtain ⟨p, hp, hb⟩ := List.any_eq_true.1 ha
    obtain ⟨j, hj⟩ := List.getElem?_of_mem hp
    obtain ⟨h1, h2⟩ := List.getElem?_zip_eq_some.1 hj
    have hjl : j < rs.length := (List.getElem?_eq_some_iff.1 h2).1
    rw [List.getElem?_map, List.getElem?_range hjl] at h1
    simp at h1
    obtain ⟨q, hq, hqj⟩ : ∃ q ∈ ps, q.1 = j := by
      have := hperm.mem_iff.2 (List.mem_range.2 hjl)
      obtain ⟨q, hq, e⟩ := List.mem_map.1 this
      exact ⟨q, hq, e⟩
    have h3 := hright q hq
    have h4 := hat q hq
    rw [hqj] at h3 h4
    rw [loAt_eq h2, hiAt_eq h2] at h3
    unfold wrongB at hb
    rw [Bool.not_eq_true', inR_no] at hb
    rw [← h1] at hb
    omega
  refine ⟨hE, ?_⟩
  unfold hoursV
  rw [hE, if_pos rfl, loads_perm L hL.1 hmap]
  have h5 := (fill_late h hr hL.1).2
  rw [← h5, ← hld]
  unfold loadsP Fill.loadsN
  exact loads_nat L hL.1 _ 101
/-- **The proof that is returned proves the fewest loads.** -/
theorem chain_proof {rs : List Rg} {L : Nat} {ws : List Rg} (hr : RsOk rs) (hL : 1 ≤ L ∧ L ≤ 10) (c : ChainOk rs (L : Int) 101 ws (LA rs L 101)) : (ws.length ≤ 10 ∧ proofE (L : Int) rs ws = 0) ∧ proofV (L : Int) rs ws = LA rs L 101 := by
  have hwl : ws.length ≤ 10 := by
    have h1 := chain_len (rs := rs) (L := (L : Int)) (by omega) (fun x hx => (hr.2 x hx).2.1) ws (fun r hr => (c.win r hr).2) c.pw
    have h2 := List.countP_le_length (p := fun x => ws.any fun r => inWd r x) (l := rs)
    have h3 := hr.1
    omega
  have hw : ∀ r ∈ ws, 0 ≤ r.lo ∧ r.lo ≤ r.hi ∧ r.hi ≤ 100 := fun r h => wins_small hr (c.win r h).1
  have hsep : ∀ (l : List Rg) (e : Int), l.Pairwise (fun a b => a.hi < b.lo) → (∀ r ∈ l, e < r.lo) → sepB e l = true := by
    intro l
    induction l with
    | nil => intro e _ _; rfl
    | cons r l ih =>
      intro e hp he
      rw [List.pairwise_cons] at hp
      show (decide (e < r.lo) && sepB r.hi l) = true
      rw [ih r.hi hp.2 hp.1, Bool.and_true, decide_eq_true_eq]
      exact he r (by simp)
  have hE : proofE (L : Int) rs ws = 0 := by
    unfold proofE
    rw [if_pos (yard_of (by omega) hr), if_neg (by omega), if_neg, if_pos (hsep ws (-1) c.pw (fun r h => by have := hw r h; omega))]
    intro ha
    obtain ⟨x, hx, hb⟩ := List.any_eq_true.1 ha
    have h1 := hw x hx
    unfold badR at hb
    have h2 : winB x = true := by rw [win_alt]; simp; omega
    rw [h2] at hb
    cases hb
  exact ⟨⟨hwl, hE⟩, by unfold proofV; rw [hE, if_pos rfl, ← c.sum]⟩
end Go.Proofs.Ytbbdlebmagknmaa
