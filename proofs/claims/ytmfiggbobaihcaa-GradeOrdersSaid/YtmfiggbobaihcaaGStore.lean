/- A store, as it lies in memory; grade.newStore, open. -/
import Derived.Test.YtmfiggbobaihcaaGCheck
import Derived.Test.YtmfiggbobaihcaaGNum
import Derived.Laws.CopyOwn
namespace Go.Proofs.Ytmfiggbobaihcaa
open Go.RowKit Go.Shelf

def stoC (SA : Option Addr) (sn sc : Nat) (PA : Option Addr) (pn pc : Nat) (OA : Option Addr) (on oc : Nat) (M : Nat → Int) : Array Value :=
  #[.slice SA sn sc, .slice PA pn pc, .slice OA on oc, .int .i64 (M 0), .int .i64 (M 1), .int .i64 (M 2), .int .i64 (M 3), .int .i64 (M 4)]
/-- A store: a shop, and its stock. -/
structure StIn (W : World) (T : Nat) (SA : Option Addr) (sn sc : Nat) (PA : Option Addr) (pn pc : Nat) (OA : Option Addr) (on oc : Nat) (S P : List Int) (O : List Od) (M : Nat → Int) : Prop where
  b0 : Blk W T 83 (stoC SA sn sc PA pn pc OA on oc M)
  sh : ShopIn W W.heap.size SA sn sc PA pn pc OA on oc S P O
section
variable {W W' : World} {T : Nat} {SA : Option Addr} {sn sc : Nat} {PA : Option Addr} {pn pc : Nat} {OA : Option Addr} {on oc : Nat} {S P : List Int} {O : List Od} {M : Nat → Int}
theorem StIn.later (h : StIn W T SA sn sc PA pn pc OA on oc S P O M) (hb : Below W.heap.size W W') : StIn W' T SA sn sc PA pn pc OA on oc S P O M := ⟨h.b0.later hb, h.sh.later hb⟩
theorem StIn.cells (h : StIn W T SA sn sc PA pn pc OA on oc S P O M) : W.cell? ⟨T, 0, none⟩ = some (.slice SA sn sc) ∧ W.cell? ⟨T, 1, none⟩ = some (.slice PA pn pc) ∧ W.cell? ⟨T, 2, none⟩ = some (.slice OA on oc) ∧ T < W.heap.size := ⟨h.b0.cell 0, h.b0.cell 1, h.b0.cell 2, h.b0.lt⟩
theorem StIn.stock (h : StIn W T SA sn sc PA pn pc OA on oc S P O M) {g : Nat} (hg : g < 5) : W.cell? ⟨T, 3 + g, none⟩ = some (.int .i64 (M g)) := by
  rcases g with _ | _ | _ | _ | _ | g
  · exact h.b0.cell 3
  · exact h.b0.cell 4
  · exact h.b0.cell 5
  · exact h.b0.cell 6
  · exact h.b0.cell 7
  · omega
end
def stockM (S : List Int) : Nat → Int := fun j => S.getD j 0
theorem sto_splice (SA : Option Addr) (sn sc : Nat) (PA : Option Addr) (pn pc : Nat) (OA : Option Addr) (on oc : Nat) : ∀ S : List Int, S.length ≤ 5 →
    (splice (stoC SA sn sc PA pn pc OA on oc (fun _ => 0)).toList 3 (S.map (Value.int .i64))).toArray = stoC SA sn sc PA pn pc OA on oc (stockM S)
  | [], _ => rfl
  | [_], _ => rfl
  | [_, _], _ => rfl
  | [_, _, _], _ => rfl
  | [_, _, _, _], _ => rfl
  | [_, _, _, _, _], _ => rfl
  | _ :: _ :: _ :: _ :: _ :: _ :: _, h => by simp at h
theorem Sl.src {w : World} {B : Nat} {A : Option Addr} {n c : Nat} {xs : List Int} (h : Sl 1 encI w B A n c xs) (hp : 0 < n) :
    ∃ ad, A = some ad ∧ ∀ j v, (xs.map (Value.int .i64))[j]? = some v → w.cell? (ad.add j) = some v := by
  obtain ⟨b, o, hA, _, hc⟩ := h.at_ hp
  refine ⟨_, hA, fun j v hv => ?_⟩
  rw [List.getElem?_map, Option.map_eq_some_iff] at hv
  obtain ⟨x, hx, rfl⟩ := hv
  have h1 := hc j x hx 0 _ rfl
  rw [Nat.mul_one, Nat.add_zero] at h1
  rw [show (⟨b, o, none⟩ : Addr).add j = ⟨b, o + j, none⟩ from by unfold Addr.add; split <;> simp_all]
  exact h1
set_option maxHeartbeats 4000000 in
theorem newStore_any (SA : Option Addr) (sn sc : Nat) (PA : Option Addr) (pn pc : Nat) (OA : Option Addr) (on oc : Nat) (S P : List Int) (O : List Od) (w : World) (hs : ShopIn w w.heap.size SA sn sc PA pn pc OA on oc S P O) (h5 : S.length ≤ 5) :
    Calls Try.prog 83 #[.agg #[.slice SA sn sc, .slice PA pn pc, .slice OA on oc]] w fun e w' => ∃ T, e = .returned (.pointer (some ⟨T, 0, none⟩)) ∧ Below w.heap.size w w' ∧ StIn w' T SA sn sc PA pn pc OA on oc S P O (stockM S) ∧ w.heap.size ≤ T := by
  obtain rfl := hs.stk.len
  obtain rfl := hs.prc.len
  obtain rfl := hs.ord.len
  have HG0 := Lib.hid (GW.start hs)
  have Hs := Lib.hid hs
  obtain ⟨g0, g1, g2, g3⟩ := HG0.out.cells
  clear hs
  go_enter Try.func83, Try.ntmps83
  have hB2 := balloc (balloc (brefl w) (.cells #[.slice SA S.length sc, .slice PA P.length pc, .slice OA O.length oc] 25)) (.cells (stoC SA S.length sc PA P.length pc OA O.length oc (fun _ => 0)) 83)
  have HB2 := Lib.hid hB2
  have HW := Lib.hid (show Blk ((w.alloc (.cells #[.slice SA S.length sc, .slice PA P.length pc, .slice OA O.length oc] 25)).alloc (.cells (stoC SA S.length sc PA P.length pc OA O.length oc (fun _ => 0)) 83)) (w.heap.size + 1) 83 (stoC SA S.length sc PA P.length pc OA O.length oc (fun _ => 0)) by simpa using Blk.new (w.alloc (.cells #[.slice SA S.length sc, .slice PA P.length pc, .slice OA O.length oc] 25)) 83 (stoC SA S.length sc PA P.length pc OA O.length oc (fun _ => 0)))
  have HG1 := Lib.hid (HG0.out.later (balloc (brefl _) (.cells (stoC SA S.length sc PA P.length pc OA O.length oc (fun _ => 0)) 83)))
  obtain ⟨c0, c1, c2, c3⟩ := HG1.out.cells
  have Hsrc := Lib.hid (fun h : 0 < (S.map (Value.int .i64)).length => HG1.out.sh.stk.src (by simpa using h))
  clear g0 g1 g2 g3 HG0 hB2 HG1
  go_wp2_with fail
  go_region_law (refine step_copy_splice rfl _ _ 22 22 (by rfl) 2 und_longs (by kernel_rfl) (some ⟨w.heap.size + 1, 3, none⟩) SA 5 5 S.length sc (by rfl) (by rfl) (w.heap.size + 1) 3 (stoC SA S.length sc PA P.length pc OA O.length oc (fun _ => 0)).toList 83 HW.out (S.map (Value.int .i64)) (by have : Nat.min S.length 5 = min S.length 5 := rfl; simp; omega) (fun h => ⟨rfl, Hsrc.out h⟩) (by simp [stoC]; omega) (by simp [Value.oneCell']) w.heap.size w (bdrew HB2.out 1) (by omega) ?_; intro w4 hg4 hb4)
  all_goals
    have HB4 := Lib.hid hb4
    clear hb4
    go_wp2
    go_ret
    refine ⟨w.heap.size + 1, rfl, HB4.out, ⟨?_, Hs.out.later HB4.out⟩, by omega⟩
    have h := hg4.out
    rwa [sto_splice _ _ _ _ _ _ _ _ _ S h5] at h
end Go.Proofs.Ytmfiggbobaihcaa
