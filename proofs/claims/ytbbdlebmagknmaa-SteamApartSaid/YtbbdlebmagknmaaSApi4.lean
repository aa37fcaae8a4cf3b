/- steam's Proof: windows that prove the fewest loads, copied. -/
import Derived.Test.YtbbdlebmagknmaaSApiG
import Derived.Test.YtbbdlebmagknmaaSProved
import Derived.Laws.CopyOwn
namespace Go.Proofs.Ytbbdlebmagknmaa
open Go.RowKit Go.Shelf

theorem run_copy_any {P : Program} (w : World) (dT sT ty elem : TypeId) (g dLen dCap : Nat) (a : Addr) (sLen sCap : Nat) (cur : Array Value) (t : TypeId) (cs : List Value) (i : TypeInfo)
    (hu : P.underlying dT = some (.slice elem)) (hi : P.info? elem = some i)
    (hg : w.heap[g]? = some (.cells cur t (0, 0))) (hn : cs.length = Nat.min sLen dLen * i.size)
    (hsrc : ∀ j v, cs[j]? = some v → w.cell? (a.add j) = some v) (hfit : cs.length ≤ cur.size) (h1 : ∀ v ∈ cs, v.oneCell' = true) :
    (Builtin.copy_ #[dT, sT] ty #[.slice (some ⟨g, 0, none⟩) dLen dCap, .slice (some a) sLen sCap]).run P w =
      .ok (goInt (Nat.min sLen dLen : Nat)) (w.setRow g (cs ++ cur.toList.drop cs.length).toArray) := by
  have hl := run_loadCells_list (P := P) w a cs hsrc
  have hst := run_storeCells_at P g 0 t cs 0 cur w hg (by simpa using hfit) h1
  simp only [Nat.add_zero, Nat.zero_add, List.take_zero, List.nil_append] at hst
  simp [Builtin.copy_, run_underlying hu, Builtin.lenOf, Builtin.firstCells, sizeOf, typeInfo, hi, ← hn, hl, hst]
theorem make_rgs (n : Nat) (hn : n ≤ 1000) (W : World) :
    (Instr.makeSlice 22 (.int .i64 n) (.int .i64 n)).run Try.prog W = .ok (.slice (some ⟨W.heap.size, 0, none⟩) n n) (W.alloc (.cells (madeCells #[.int .i64 0, .int .i64 0] (n * 2)) 27)) := by
  obtain ⟨i0, hi, hz0, hz1, hz2⟩ := info_parts info_rg
  have h := run_make (P := Try.prog) W 22 27 i0 (.agg #[.int .i64 0, .int .i64 0]) und_rgs hi hz0 .i64 .i64 n n (by omega) (Int.le_refl _) (by rw [hz2]; omega) (by omega)
  rw [hz1] at h
  simpa [Value.cells] using h
set_option maxRecDepth 100000 in
set_option maxHeartbeats 4000000 in
theorem proofC_ok (L : Nat) (A : Option Addr) (c : Nat) (rs : List Rg) (w : World) (hs : Sl 2 encR w w.heap.size A rs.length c rs) (he : yardE (L : Int) rs = 0) :
    Calls Try.prog 30 #[.agg #[.int .i64 (L : Int), .slice A rs.length c]] w fun e w' => ∃ g ws, e = .returned (.tuple #[.slice (some ⟨g, 0, none⟩) ws.length ws.length, .int .i64 0]) ∧ Below w.heap.size w w' ∧ Sl 2 encR w' w'.heap.size (some ⟨g, 0, none⟩) ws.length ws.length ws ∧ ChainOk rs (L : Int) 101 ws (LA rs L 101) := by
  obtain ⟨hL, hr⟩ := yard_ok he
  have HY := Lib.hid (show YB w (w.alloc (.cells #[.int .i64 (L : Int), .slice A rs.length c] 24)) (L : Int) A rs.length c from ⟨balloc (brefl w) _, Blk.new w _ _⟩)
  have hc := Lib.hid (open_ok (L : Int) A rs.length c rs _ (hs.later HY.out.bel) he)
  have Hs := Lib.hid hs
  have Hr := Lib.hid hr
  clear hs he hr
  go_enter Try.func30, Try.ntmps30
  go_wp2_with fail
  refine hc.out.mono ?_
  rintro e w1 ⟨g, rfl, hb1, hg, hv⟩
  have hB1 := Below.later HY.out.bel hb1
  have hf := proof_any g L A c rs w1 hv (Hs.out.later hB1) Hr.out (by omega)
  have HB1 := Lib.hid hB1
  have Hf := Lib.hid hf
  clear hb1 hv hB1 hf
  go_wp2_with fail
  refine Hf.out.mono ?_
  rintro e w2 ⟨An, cc, ws, rfl, hb2, hown, hch⟩
  have hwl : ws.length ≤ 10 := by
    have h1 := chain_len (rs := rs) hL.1 (fun x hx => (Hr.out.2 x hx).2.1) ws (fun r hr => (hch.win r hr).2) hch.pw
    have h2 := List.countP_le_length (p := fun x => ws.any fun r => inWd r x) (l := rs)
    have h3 := Hr.out.1
    omega
  have HB2 := Lib.hid (Below.later HB1.out hb2)
  have Hch := Lib.hid hch
  obtain ⟨i0, hi, hz0, hz1, hz2⟩ := info_parts info_rg
  obtain ⟨n, hn⟩ : ∃ n, ws.length = n := ⟨_, rfl⟩
  have Hn := Lib.hid hn
  rw [hn] at hown hwl ⊢
  clear hb2 hch hn
  have hmk := make_rgs n (by omega) w2
  have hblk : (w2.alloc (.cells (madeCells #[.int .i64 0, .int .i64 0] (n * 2)) 27)).heap[w2.heap.size]? = some (.cells (madeCells #[.int .i64 0, .int .i64 0] (n * 2)) 27 (0, 0)) := World.alloc_heap_new w2 _
  have hxl : (ws.flatMap encR).length = n * 2 := hown.1
  have hfin : ∀ W' : World, W'.heap[w2.heap.size]? = some (.cells ((ws.flatMap encR) ++ (madeCells #[Value.int .i64 0, .int .i64 0] (n * 2)).toList.drop (ws.flatMap encR).length).toArray 27 (0, 0)) → Sl 2 encR W' W'.heap.size (some ⟨w2.heap.size, 0, none⟩) n n ws := by
    intro W' hW
    refine ⟨Hn.out, Nat.le_refl _, by omega, fun _ => ⟨w2.heap.size, 0, rfl, (Array.getElem?_eq_some_iff.1 hW).1, fun i x hx j u hu => ?_⟩⟩
    have h1 := flat_get (k := 2) (enc := encR) (fun _ => rfl) ws i x hx j u hu
    have hlt : i * 2 + j < (ws.flatMap encR).length := (List.getElem?_eq_some_iff.1 h1).1
    have h2 : W'.cell? ⟨w2.heap.size, 0 + i * 2 + j, none⟩ = ((ws.flatMap encR) ++ (madeCells #[Value.int .i64 0, .int .i64 0] (n * 2)).toList.drop (ws.flatMap encR).length).toArray[0 + i * 2 + j]? := by simp [World.cell?, hW]
    rw [h2, Nat.zero_add, List.getElem?_toArray, List.getElem?_append_left hlt]
    exact h1
  have hmin : Nat.min n n = n := Nat.min_self n
  rcases hown.2 with ⟨hv, h0⟩ | ⟨g', cap, cur, hv, hg0, hg', hcap, hmax, hsz, htake⟩
  · simp only [Value.slice.injEq] at hv
    obtain ⟨rfl, rfl, rfl⟩ := hv
    have hcp := fun ty => run_copy_nil (P := Try.prog) (w2.alloc (.cells #[] 27)) 22 22 ty 27 ⟨w2.heap.size, 0, none⟩ 0 0 und_rgs (by rw [hi]; rfl)
    have h2 : madeCells #[Value.int .i64 0, .int .i64 0] (0 * 2) = #[] := by apply Array.eq_empty_of_size_eq_zero; simp [madeCells]
    rw [h2] at hmk
    have hmk0 : (Instr.makeSlice 22 (.int .i64 0) (.int .i64 0)).run Try.prog w2 = .ok (.slice (some ⟨w2.heap.size, 0, none⟩) 0 0) (w2.alloc (.cells #[] 27)) := hmk
    clear hmk
    have hblk0 : (w2.alloc (.cells #[] 27)).heap[w2.heap.size]? = some (.cells #[] 27 (0, 0)) := World.alloc_heap_new w2 _
    have hx0 : ws = [] := List.length_eq_zero_iff.1 Hn.out
    have HF := Lib.hid (hfin _ (by rw [hblk0, hx0]; simp [madeCells]))
    have HG := Lib.hid (balloc HB2.out (.cells #[] 27))
    clear hfin hown hblk hxl hx0 hblk0 h2 h0
    go_wp2
    go_ret2
    exact ⟨w2.heap.size, ws, by rw [Hn.out]; rfl, HG.out, by rw [Hn.out]; exact HF.out, Hch.out⟩
  · simp only [Value.slice.injEq] at hv
    obtain ⟨rfl, _, rfl⟩ := hv
    have hcp := fun ty => run_copy_any (P := Try.prog) (w2.alloc (.cells (madeCells #[.int .i64 0, .int .i64 0] (n * 2)) 27)) 22 22 ty 27 w2.heap.size n n ⟨g', 0, none⟩ n cc _ _ (ws.flatMap encR) i0 und_rgs hi hblk (by rw [hz1, hmin]; exact hxl)
      (fun j u hu => (hown.alloc _).cells rfl j u hu) (by rw [hxl]; simp [madeCells]) (by
        intro u hu
        obtain ⟨x, _, hx⟩ := List.mem_flatMap.1 hu
        simp [encR] at hx
        rcases hx with rfl | rfl <;> rfl)
    simp only [hmin] at hcp
    obtain ⟨W3, hW3⟩ : ∃ W3, (w2.alloc (.cells (madeCells #[.int .i64 0, .int .i64 0] (n * 2)) 27)).setRow w2.heap.size ((ws.flatMap encR) ++ (madeCells #[Value.int .i64 0, .int .i64 0] (n * 2)).toList.drop (ws.flatMap encR).length).toArray = W3 := ⟨_, rfl⟩
    have hr3 : W3.heap[w2.heap.size]? = some (.cells ((ws.flatMap encR) ++ (madeCells #[Value.int .i64 0, .int .i64 0] (n * 2)).toList.drop (ws.flatMap encR).length).toArray 27 (0, 0)) := by
      rw [← hW3]; rw [setRow_heap _ _ _ _ _ _ hblk]
    have hg3 : Below w.heap.size w W3 := by
      rw [← hW3]; exact below_setRow (balloc HB2.out _) HB2.out.size _
    rw [hW3] at hcp
    have HF := Lib.hid (hfin _ hr3)
    have HG := Lib.hid hg3
    clear hfin hown hblk hxl hr3 hg3 hW3 htake hg' hcap hsz
    go_wp2
    go_ret2
    exact ⟨w2.heap.size, ws, by rw [Hn.out]; rfl, HG.out, by rw [Hn.out]; exact HF.out, Hch.out⟩
end Go.Proofs.Ytbbdlebmagknmaa
