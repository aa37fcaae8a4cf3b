/- The chapter's examples: the shops, and what holds of them, in plain words. -/
import Derived.Test.YtmfiggbobaihcaaGLit
import Derived.KernelRfl
namespace Go.Proofs.Ytmfiggbobaihcaa
open Go.RowKit Go.Shelf

def exP : List Int := [9, 5, 2]
def exO : List Od := [⟨0, 2⟩, ⟨1, 4⟩, ⟨2, 4⟩]
def exA : List Int := [3, 4, 5]
def exB : List Int := [3, 4, 1]
def exC : List Int := [4, 4, 3]
set_option maxRecDepth 100000 in
set_option maxHeartbeats 4000000 in
theorem example_any (A : Option Addr) (n c : Nat) (S : List Int) (w : World) (hs : Sl 1 encI w w.heap.size A n c S) : Calls Try.prog 54 #[.slice A n c] w fun e w' => ∃ PA OA oc, e = .returned (.agg #[.slice A n c, .slice PA 3 3, .slice OA 3 oc]) ∧ Below w.heap.size w w' ∧ ShopIn w' w'.heap.size A n c PA 3 3 OA 3 oc S exP exO := by
  have Hs := Lib.hid hs
  have hz := (Blk.new w 25 #[.slice none 0 0, .slice none 0 0, .slice none 0 0]).alloc (.cells #[.int .i64 9, .int .i64 5, .int .i64 2] 2)
  have hp := Blk.new (w.alloc (.cells #[.slice none 0 0, .slice none 0 0, .slice none 0 0] 25)) 2 #[.int .i64 9, .int .i64 5, .int .i64 2]
  rw [World.size_alloc] at hp
  have HZ := Lib.hid hz
  have HP := Lib.hid (lit_sl (xs := exP) (n := 3) hp (by simp : w.heap.size + 1 < ((w.alloc (.cells #[.slice none 0 0, .slice none 0 0, .slice none 0 0] 25)).alloc (.cells #[.int .i64 9, .int .i64 5, .int .i64 2] 2)).heap.size) rfl (by omega))
  have HB := Lib.hid (balloc (balloc (brefl w) (.cells #[.slice none 0 0, .slice none 0 0, .slice none 0 0] 25)) (.cells #[.int .i64 9, .int .i64 5, .int .i64 2] 2))
  clear hs hz hp
  go_enter Try.func54, Try.ntmps54
  go_wp2_with fail
  refine (longs_any _ _ _ _).mono ?_
  rintro e W1 ⟨rfl, hb⟩
  have hq := Blk.new W1 2 #[.int .i64 0, .int .i64 2, .int .i64 1, .int .i64 4, .int .i64 2, .int .i64 4]
  have hb2 := hb.alloc hb.size (.cells #[.int .i64 0, .int .i64 2, .int .i64 1, .int .i64 4, .int .i64 2, .int .i64 4] 2)
  have HZ2 := Lib.hid (HZ.out.later hb2)
  have HP2 := Lib.hid (HP.out.later hb2)
  have HB2 := Lib.hid (Below.later HB.out hb2)
  have HQ := Lib.hid (lit_sl (xs := flatO exO) (n := 6) hq hq.lt rfl (by omega))
  clear hb hb2 hq HZ HP HB
  go_wp2_with fail
  refine (shop_any A n c _ 3 3 _ 6 6 exO _ HQ.out (by decide)).mono ?_
  rintro e W2 ⟨OA, oc, rfl, hb, hsl⟩
  have HZ3 := Lib.hid (HZ2.out.later hb)
  have HP3 := Lib.hid (HP2.out.later hb)
  have HB3 := Lib.hid (Below.later HB2.out hb)
  have HO3 := Lib.hid (own_low hsl (show w.heap.size + 1 ≤ _ by have := HZ2.out.lt; omega))
  clear hb hsl HZ2 HP2 HB2 HQ
  have y0 := HZ3.out.cell 0
  have y1 := HZ3.out.cell 1
  have y2 := HZ3.out.cell 2
  have y3 := HZ3.out.frozen 0
  have y4 := HZ3.out.frozen 1
  have y5 := HZ3.out.frozen 2
  have y6 := HZ3.out.lt
  rw [show exO.length = 3 from rfl] at HO3 ⊢
  go_wp2
  have hzf := ((HZ3.out.set 0 (.slice A n c)).set 1 (.slice (some ⟨w.heap.size + 1, 0, none⟩) 3 3)).set 2 (.slice OA 3 oc)
  have s0 := hzf.cell 0
  have s1 := hzf.cell 1
  have s2 := hzf.cell 2
  have hbe := ((HB3.out.setCell (p := ⟨w.heap.size, 0, none⟩) (Nat.le_refl _) (.slice A n c)).setCell (p := ⟨w.heap.size, 1, none⟩) (Nat.le_refl _) (.slice (some ⟨w.heap.size + 1, 0, none⟩) 3 3)).setCell (p := ⟨w.heap.size, 2, none⟩) (Nat.le_refl _) (.slice OA 3 oc)
  refine bodyPost_ret (v := .agg #[.slice A n c, .slice (some ⟨w.heap.size + 1, 0, none⟩) 3 3, .slice OA 3 oc]) ?_ rfl ⟨_, OA, oc, rfl, hbe, ⟨Hs.out.later hbe, ?_, ?_⟩⟩
  · simp [results, Try.results54, go_sem, s0, s1, s2]
  · refine ((HP3.out.setO (p := ⟨w.heap.size, 0, none⟩) ?_ _).setO (p := ⟨w.heap.size, 1, none⟩) ?_ _).setO (p := ⟨w.heap.size, 2, none⟩) ?_ _ |>.more (by simp)
    all_goals
      intro b o _ he
      simp only [Option.some.injEq, Addr.mk.injEq, and_true] at he
      obtain ⟨rfl, _⟩ := he
      show w.heap.size + 1 ≠ w.heap.size
      omega
  · have hnr : (Value.slice OA 3 oc).ownBlock ≠ some w.heap.size := fun e => by have := own_base HO3.out _ e; omega
    obtain ⟨A2, c2, he2, hsl2⟩ := own_slG (k := 2) (enc := encO) (fun _ => rfl) (own_other (own_other (own_other HO3.out ⟨w.heap.size, 0, none⟩ hnr (.slice A n c)) ⟨w.heap.size, 1, none⟩ hnr (.slice (some ⟨w.heap.size + 1, 0, none⟩) 3 3)) ⟨w.heap.size, 2, none⟩ hnr (.slice OA 3 oc)) (xs := exO) rfl
    simp only [Value.slice.injEq] at he2
    obtain ⟨rfl, -, rfl⟩ := he2
    exact hsl2
theorem x_fine (S : List Int) (h : S = exA ∨ S = exB ∨ S = exC) : shopE S exP exO = 0 := by
  rcases h with rfl | rfl | rfl <;> kernel_rfl
theorem x_f1 : fillR exA exP exO [[2, 0, 0], [1, 3, 0], [0, 1, 3]] = (53, 0) := by kernel_rfl
theorem x_f2 : fillR exA exP exO [[1, 1, 0], [0, 4, 0], [0, 0, 4]] = (0, 25) := by kernel_rfl
theorem x_f3 : fillR exA exP exO [[2, 0, 0], [0, 4, 0], [0, 0, 3]] = (0, 14) := by kernel_rfl
theorem x_f4 : fillR exA exP exO [[2, 0, 0], [0, 4, 0], [0, 1, 3]] = (0, 4) := by kernel_rfl
theorem x_f5 : fillR exA exP exO [[2, 0, 0], [0, 4, 0], [0, 0, 4]] = (46, 0) := by kernel_rfl
theorem x_s1 : chShortR exB exP exO 1 = (-1, 0) := by kernel_rfl
theorem x_s2 : chShortR exB exP exO 3 = (0, 2) := by kernel_rfl
theorem x_s3 : chShortR exB exP exO 2 = (2, 0) := by kernel_rfl
theorem x_sh : shortR exB exP exO = (2, 0) := by kernel_rfl
theorem x_sh2 : shortR exA exP exO = (0, 5) := by kernel_rfl
theorem x_fil : filE exA exP exO = 0 ∧ filE exB exP exO = 25 ∧ filE exC exP exO = 0 := ⟨by kernel_rfl, by kernel_rfl, by kernel_rfl⟩
theorem x_sp : spL 3 exO (stockM exC) = [3, 4, 3] ∧ spL 3 exO (stockM exA) = [2, 4, 4] := ⟨by kernel_rfl, by kernel_rfl⟩
theorem x_le : leV 3 exP exO (stockM exC) = 53 ∧ leV 3 exP exO (stockM exA) = 46 := ⟨by kernel_rfl, by kernel_rfl⟩
theorem x_p1 : proofR exC exP exO [0, 4, 7] = (53, 0) := by kernel_rfl
theorem x_p2 : proofR exC exP exO [0, 0] = (0, 15) := by kernel_rfl
theorem x_p3 : proofR exC exP exO [0, 0, 101] = (0, 3) := by kernel_rfl
theorem x_p4 : proofR exC exP exO [0, 0, 0] = (46, 0) := by kernel_rfl
theorem x_p5 : proofR exB exP exO [0, 0, 0] = (46, 0) := by kernel_rfl
theorem x_w2 : worthR exC exP exO 2 = (7, 0) := by kernel_rfl
theorem x_w3 : worthR exC exP exO 3 = (0, 2) := by kernel_rfl
theorem x_w0 : worthR exC exP exO 0 = (0, 0) := by kernel_rfl
theorem x_w1 : worthR exC exP exO 1 = (4, 0) := by kernel_rfl
theorem x_wa : worthR exA exP exO 2 = (0, 0) := by kernel_rfl
theorem x_wo : woL 3 exP exO (stockM exC) = [0, 4, 7] := by kernel_rfl
theorem x_q1 : spanR exC exP exO [0, 0, 2] = (46, 53, 0) := by kernel_rfl
theorem x_q2 : spanR exC exP exO [0, 0, 48] = (0, 0, 3) := by kernel_rfl
theorem x_r1 : refR 3 exO (stockM exB) = [0] := by kernel_rfl
theorem x_r2 : refR 3 exO (stockM exA) = [] := by kernel_rfl
end Go.Proofs.Ytmfiggbobaihcaa
