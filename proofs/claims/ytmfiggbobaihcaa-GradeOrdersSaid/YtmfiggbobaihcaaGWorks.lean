/- Works: the examples of the chapter hold. -/
import Derived.Test.YtmfiggbobaihcaaGEx
namespace Go.Proofs.Ytmfiggbobaihcaa
open Go.RowKit Go.Shelf

theorem checkProof_all (SA : Option Addr) (sn sc : Nat) (PA : Option Addr) (pn pc : Nat) (OA : Option Addr) (on oc : Nat) (S P : List Int) (O : List Od) (LA : Option Addr) (ln lc : Nat) (L : List Int) (w : World) (hs : ShopIn w w.heap.size SA sn sc PA pn pc OA on oc S P O) (hl : Sl 1 encI w w.heap.size LA ln lc L) : Calls Try.prog 33 #[.agg #[.slice SA sn sc, .slice PA pn pc, .slice OA on oc], .slice LA ln lc] w fun e w' => e = .returned (.tuple #[.int .i64 (proofR S P O L).1, .int .i64 (proofR S P O L).2]) ∧ Below w.heap.size w w' := by
  by_cases h : (proofR S P O L).2 = 0
  · unfold proofR at h
    by_cases he : shopE S P O = 0
    · rw [if_neg (fun h => h he)] at h
      by_cases hn : L.length = S.length
      · rw [if_neg (fun h => h hn)] at h
        cases ha : L.any (outR 0 100) with
        | true => rw [ha] at h; cases h
        | false =>
          have hp : proofR S P O L = (proofV S P O L, 0) := by unfold proofR; rw [if_neg (fun h => h he), if_neg (fun h => h hn), ha]; rfl
          rw [hp]
          exact checkProof_ok SA sn sc PA pn pc OA on oc S P O LA ln lc L w hs hl he hn ha
      · rw [if_pos hn] at h
        cases h
    · rw [if_pos he] at h
      exact absurd h he
  · exact checkProof_bad SA sn sc PA pn pc OA on oc S P O LA ln lc L w hs hl h
/-- An example's shop stands. -/
structure KS (W : World) (B : Nat) (SA PA OA : Option Addr) (oc : Nat) (S : List Int) : Prop where
  b : Blk W B 25 #[.slice SA 3 3, .slice PA 3 3, .slice OA 3 oc]
  sh : ShopIn W W.heap.size SA 3 3 PA 3 3 OA 3 oc S exP exO
theorem KS.later {W W' : World} {B : Nat} {SA PA OA : Option Addr} {oc : Nat} {S : List Int} (h : KS W B SA PA OA oc S) (hb : Below W.heap.size W W') : KS W' B SA PA OA oc S := ⟨h.b.later hb, h.sh.later hb⟩
/-- Rows that are handed in. -/
def IsRows (X : List (List Int)) (v : Value) (W : World) : Prop := ∃ A c L, v = .slice A 3 c ∧ FillIn W A 3 c L ∧ rowsX L = X
theorem IsRows.stab {X : List (List Int)} : ∀ v W W', Gr W W' → IsRows X v W → IsRows X v W' := fun _ _ _ hG ⟨A, c, L, h1, h2, h3⟩ => ⟨A, c, L, h1, h2.later hG, h3⟩
theorem rows_three {W : World} {b : Nat} {t : TypeId} {A1 A2 A3 : Option Addr} {c1 c2 c3 : Nat} {x1 x2 x3 : List Int} (hb : Blk W b t #[.slice A1 3 c1, .slice A2 3 c2, .slice A3 3 c3]) (h1 : Sl 1 encI W W.heap.size A1 3 c1 x1) (h2 : Sl 1 encI W W.heap.size A2 3 c2 x2) (h3 : Sl 1 encI W W.heap.size A3 3 c3 x3) : FillIn W (some ⟨b, 0, none⟩) 3 3 [⟨A1, 3, c1, x1⟩, ⟨A2, 3, c2, x2⟩, ⟨A3, 3, c3, x3⟩] := by
  refine ⟨⟨rfl, Nat.le_refl _, by omega, fun _ => ⟨b, 0, rfl, hb.lt, fun i z hz j u hu => ?_⟩⟩, fun r hr => ?_⟩
  · rw [hb.cell]
    match i, hz with
    | 0, rfl => match j, hu with
      | 0, rfl => rfl
    | 1, rfl => match j, hu with
      | 0, rfl => rfl
    | 2, rfl => match j, hu with
      | 0, rfl => rfl
  · simp only [List.mem_cons, List.not_mem_nil, or_false] at hr
    rcases hr with rfl | rfl | rfl
    · exact h1
    · exact h2
    · exact h3
section
variable {W : World} {B : Nat} {SA PA OA : Option Addr} {oc : Nat} {S : List Int}
theorem t_fill (h : KS W B SA PA OA oc S) {X : List (List Int)} {v e : Int} (hx : fillR S exP exO X = (v, e)) {A : Option Addr} {c : Nat} {L : List Rw} (hl : FillIn W A 3 c L) (hX : rowsX L = X) :
    Calls Try.prog 19 #[.agg #[.slice SA 3 3, .slice PA 3 3, .slice OA 3 oc], .slice A 3 c] W fun r w' => r = .returned (.tuple #[.int .i64 v, .int .i64 e]) ∧ Below W.heap.size W w' := by
  have := checkFill_any SA 3 3 PA 3 3 OA 3 oc S exP exO A 3 c L W h.sh hl (by omega)
  rw [hX, hx] at this
  exact this
theorem t_rfill (h : KS W B SA PA OA oc S) {X : List (List Int)} {v e : Int} (hx : fillR S exP exO X = (v, e)) {A : Option Addr} {c : Nat} {L : List Rw} (hl : FillIn W A 3 c L) (hX : rowsX L = X) :
    Calls Try.prog 20 #[.agg #[.slice SA 3 3, .slice PA 3 3, .slice OA 3 oc], .slice A 3 c] W fun r w' => r = .returned (.tuple #[.int .i64 v, .int .i64 e]) ∧ Below W.heap.size W w' := by
  have := refFill_any SA 3 3 PA 3 3 OA 3 oc S exP exO A 3 c L W h.sh hl (by omega)
  rw [hX, hx] at this
  exact this
theorem t_short (h : KS W B SA PA OA oc S) {g v e : Int} (hx : chShortR S exP exO g = (v, e)) : Calls Try.prog 21 #[.agg #[.slice SA 3 3, .slice PA 3 3, .slice OA 3 oc], .int .i64 g] W fun r w' => r = .returned (.tuple #[.int .i64 v, .int .i64 e]) ∧ Below W.heap.size W w' := by
  have := checkShort_any SA 3 3 PA 3 3 OA 3 oc S exP exO W h.sh g
  rw [hx] at this
  exact this
theorem t_first (h : KS W B SA PA OA oc S) {v e : Int} (hx : shortR S exP exO = (v, e)) : Calls Try.prog 23 #[.agg #[.slice SA 3 3, .slice PA 3 3, .slice OA 3 oc]] W fun r w' => r = .returned (.tuple #[.int .i64 v, .int .i64 e]) ∧ Below W.heap.size W w' := by
  have := shortA_any SA 3 3 PA 3 3 OA 3 oc S exP exO W h.sh
  rw [hx] at this
  exact this
theorem t_spent (h : KS W B SA PA OA oc S) (hl : S.length = 3) (hx : filE S exP exO = 0) : Calls Try.prog 27 #[.agg #[.slice SA 3 3, .slice PA 3 3, .slice OA 3 oc]] W fun r w' => ∃ b, r = .returned (.tuple #[.slice (some ⟨b, 0, none⟩) 3 3, .int .i64 0]) ∧ Below W.heap.size W w' ∧ Sl 1 encI w' w'.heap.size (some ⟨b, 0, none⟩) 3 3 (spL 3 exO (stockM S)) := by
  have := spentA_ok SA 3 3 PA 3 3 OA 3 oc S exP exO W h.sh hx
  rw [hl] at this
  exact this
theorem t_least (h : KS W B SA PA OA oc S) (hl : S.length = 3) (hx : filE S exP exO = 0) {v : Int} (hv : leV 3 exP exO (stockM S) = v) : Calls Try.prog 29 #[.agg #[.slice SA 3 3, .slice PA 3 3, .slice OA 3 oc]] W fun r w' => r = .returned (.tuple #[.int .i64 v, .int .i64 0]) ∧ Below W.heap.size W w' := by
  have := leastA_ok SA 3 3 PA 3 3 OA 3 oc S exP exO W h.sh hx
  rw [hl, hv] at this
  exact this
theorem t_leastB (h : KS W B SA PA OA oc exB) : Calls Try.prog 29 #[.agg #[.slice SA 3 3, .slice PA 3 3, .slice OA 3 oc]] W fun r w' => r = .returned (.tuple #[.int .i64 0, .int .i64 25]) ∧ Below W.heap.size W w' := by
  have := leastA_bad SA 3 3 PA 3 3 OA 3 oc exB exP exO W h.sh (by rw [x_fil.2.1]; decide)
  rw [x_fil.2.1] at this
  exact this
theorem t_give (h : KS W B SA PA OA oc exA) : Calls Try.prog 31 #[.agg #[.slice SA 3 3, .slice PA 3 3, .slice OA 3 oc]] W fun r w' => ∃ A c L, r = .returned (.tuple #[.slice A 3 c, .int .i64 0]) ∧ Below W.heap.size W w' ∧ FillIn w' A 3 c L ∧ fillR exA exP exO (rowsX L) = (46, 0) := by
  refine (fillA_ok SA 3 3 PA 3 3 OA 3 oc exA exP exO W h.sh x_fil.1).mono ?_
  rintro e w' ⟨A, c, L, rfl, hb, hl, hi⟩
  have hz : Sized exA.length exO (rowsX L) := ⟨hi.len, hi.row, hi.small⟩
  have he : fillE exA exP exO (rowsX L) = 0 := right_fillE (x_fine exA (.inl rfl)) hz hi.right
  refine ⟨A, c, L, rfl, hb, hl, ?_⟩
  unfold fillR
  rw [he, if_neg (by decide)]
  have hc : costL exP (gotX (rowsX L)) exA.length = leV exA.length exP exO (stockM exA) := costL_leV fun g hg => by
    have h1 := hi.got g hg
    unfold gotX gotP
    rw [sumN_pre, show (rowsX L).length = exO.length from hi.len]
    exact h1
  rw [hc, show exA.length = 3 from rfl, x_le.2]
theorem t_proof (h : KS W B SA PA OA oc S) {v e : Int} {A : Option Addr} {n c : Nat} {xs : List Int} (hx : proofR S exP exO xs = (v, e)) (hl : Sl 1 encI W W.heap.size A n c xs) : Calls Try.prog 33 #[.agg #[.slice SA 3 3, .slice PA 3 3, .slice OA 3 oc], .slice A n c] W fun r w' => r = .returned (.tuple #[.int .i64 v, .int .i64 e]) ∧ Below W.heap.size W w' := by
  have := checkProof_all SA 3 3 PA 3 3 OA 3 oc S exP exO A n c xs W h.sh hl
  rw [hx] at this
  exact this
theorem t_rproof (h : KS W B SA PA OA oc S) {v e : Int} {A : Option Addr} {n c : Nat} {xs : List Int} (hx : proofR S exP exO xs = (v, e)) (hl : Sl 1 encI W W.heap.size A n c xs) : Calls Try.prog 34 #[.agg #[.slice SA 3 3, .slice PA 3 3, .slice OA 3 oc], .slice A n c] W fun r w' => r = .returned (.tuple #[.int .i64 v, .int .i64 e]) ∧ Below W.heap.size W w' := by
  have := refProof_any SA 3 3 PA 3 3 OA 3 oc S exP exO A n c xs W h.sh hl
  rw [hx] at this
  exact this
theorem t_prf (h : KS W B SA PA OA oc exC) : Calls Try.prog 37 #[.agg #[.slice SA 3 3, .slice PA 3 3, .slice OA 3 oc]] W fun r w' => ∃ A c, r = .returned (.tuple #[.slice A 3 c, .int .i64 0]) ∧ Below W.heap.size W w' ∧ Sl 1 encI w' w'.heap.size A 3 c [0, 4, 7] := by
  have := proofA_ok SA 3 3 PA 3 3 OA 3 oc exC exP exO W h.sh x_fil.2.2
  rw [show exC.length = 3 from rfl, x_wo] at this
  exact this
theorem t_worth (h : KS W B SA PA OA oc S) {g v e : Int} (hx : worthR S exP exO g = (v, e)) : Calls Try.prog 35 #[.agg #[.slice SA 3 3, .slice PA 3 3, .slice OA 3 oc], .int .i64 g] W fun r w' => r = .returned (.tuple #[.int .i64 v, .int .i64 e]) ∧ Below W.heap.size W w' := by
  have := worthA_any SA 3 3 PA 3 3 OA 3 oc S exP exO W h.sh g
  rw [hx] at this
  exact this
theorem t_span (h : KS W B SA PA OA oc S) {v u e : Int} {A : Option Addr} {n c : Nat} {xs : List Int} (hx : spanR S exP exO xs = (v, u, e)) (hl : Sl 1 encI W W.heap.size A n c xs) : Calls Try.prog 38 #[.agg #[.slice SA 3 3, .slice PA 3 3, .slice OA 3 oc], .slice A n c] W fun r w' => r = .returned (.tuple #[.int .i64 v, .int .i64 u, .int .i64 e]) ∧ Below W.heap.size W w' := by
  have := span_any SA 3 3 PA 3 3 OA 3 oc S exP exO A n c xs W h.sh hl
  rw [hx] at this
  exact this
theorem t_ref (h : KS W B SA PA OA oc S) (hl : S.length = 3) (he : shopE S exP exO = 0) {rs : List Int} (hr : refR 3 exO (stockM S) = rs) : Calls Try.prog 40 #[.agg #[.slice SA 3 3, .slice PA 3 3, .slice OA 3 oc]] W fun r w' => ∃ A n c, r = .returned (.tuple #[.slice A n c, .int .i64 0]) ∧ Below W.heap.size W w' ∧ Sl 1 encI w' w'.heap.size A n c rs := by
  have := refuse_ok SA 3 3 PA 3 3 OA 3 oc S exP exO W h.sh he
  rw [hl, hr] at this
  exact this
theorem t_shop (h : KS W B SA PA OA oc S) {e : Int} (hx : shopE S exP exO = e) : Calls Try.prog 25 #[.agg #[.slice SA 3 3, .slice PA 3 3, .slice OA 3 oc]] W fun r w' => r = .returned (.int .i64 e) ∧ Below W.heap.size W w' := by
  have := checkShop_any SA 3 3 PA 3 3 OA 3 oc S exP exO W h.sh
  rw [hx] at this
  exact this
end
theorem eqL {W : World} {A B : Option Addr} {n m c d : Nat} {xs : List Int} (h1 : Sl 1 encI W W.heap.size A n c xs) (h2 : Sl 1 encI W W.heap.size B m d xs) : Calls Try.prog 32 #[.slice A n c, .slice B m d] W fun e w' => e = .returned (.bool true) ∧ Below W.heap.size W w' := by
  have := longsEq_any A n c xs B m d xs W h1 h2
  rw [decide_eq_true rfl] at this
  exact this
theorem eqI {W : World} {A B : Option Addr} {n m c d : Nat} {xs : List Int} (h1 : Sl 1 encI W W.heap.size A n c xs) (h2 : Sl 1 encI W W.heap.size B m d xs) : Calls Try.prog 42 #[.slice A n c, .slice B m d] W fun e w' => e = .returned (.bool true) ∧ Below W.heap.size W w' := by
  have := intsEq_any A n c xs B m d xs W h1 h2
  rw [decide_eq_true rfl] at this
  exact this
theorem lit3 {U w : World} {t : TypeId} (xs : List Int) (n : Nat) (hb : Below (U.alloc (.cells (xs.map (Value.int .i64)).toArray t)).heap.size (U.alloc (.cells (xs.map (Value.int .i64)).toArray t)) w) (hn : xs.length = n) (h2 : n ≤ 1000) : Sl 1 encI w w.heap.size (some ⟨U.heap.size, 0, none⟩) n n xs ∧ Below U.heap.size U w :=
  ⟨(lit_sl (Blk.new U t _) (by simp) hn h2).later hb, Below.later (balloc (brefl _) _) hb⟩
set_option maxRecDepth 100000 in
set_option maxHeartbeats 16000000 in
theorem works_any (w : World) : Calls Try.prog 18 #[] w fun e w' => e = .returned (.bool true) ∧ Below w.heap.size w w' := by
  go_enter Try.func18, Try.ntmps18
  go_wp2_with fail
  refine (example_any _ 3 3 exA _ (lit_sl (xs := exA) (n := 3) (Blk.new _ 2 _) (by simp) rfl (by omega))).mono ?_
  rintro e U1 ⟨P1, O1, d1, rfl, hb, hsh⟩
  have hba := Below.later (balloc (brefl _) _) hb
  have H1 := Lib.hid hsh
  have HW := Lib.hid (Bel.mk hba)
  clear hb hsh hba
  go_wp2_with fail
  refine (example_any _ 3 3 exB _ (lit_sl (xs := exB) (n := 3) (Blk.new _ 2 _) (by simp) rfl (by omega))).mono ?_
  rintro e U2 ⟨P2, O2, d2, rfl, hb, hsh⟩
  have hba := Below.later (balloc (brefl _) _) hb
  have HWn := Lib.hid (HW.out.later hba)
  have H1n := Lib.hid (H1.out.later hba)
  clear HW H1
  have HW := HWn
  have H1 := H1n
  clear HWn H1n
  have H2 := Lib.hid hsh
  clear hb hsh hba
  go_wp2_with fail
  refine (example_any _ 3 3 exC _ (lit_sl (xs := exC) (n := 3) (Blk.new _ 2 _) (by simp) rfl (by omega))).mono ?_
  rintro e U3 ⟨P3, O3, d3, rfl, hb, hsh⟩
  have hba := Below.later (balloc (brefl _) _) hb
  have HWn := Lib.hid (HW.out.later hba)
  have H1n := Lib.hid (H1.out.later hba)
  have H2n := Lib.hid (H2.out.later hba)
  clear HW H1 H2
  have HW := HWn
  have H1 := H1n
  have H2 := H2n
  clear HWn H1n H2n
  have H3 := Lib.hid hsh
  clear hb hsh hba
  go_wp2_with fail
  have hb := balloc (balloc (balloc (brefl U3) (.cells #[.slice (some ⟨w.heap.size, 0, none⟩) 3 3, .slice P1 3 3, .slice O1 3 d1] 25)) (.cells #[.slice (some ⟨U1.heap.size, 0, none⟩) 3 3, .slice P2 3 3, .slice O2 3 d2] 25)) (.cells #[.slice (some ⟨U2.heap.size, 0, none⟩) 3 3, .slice P3 3 3, .slice O3 3 d3] 25)
  have hb1 := ((Blk.new U3 25 #[.slice (some ⟨w.heap.size, 0, none⟩) 3 3, .slice P1 3 3, .slice O1 3 d1]).alloc (.cells #[.slice (some ⟨U1.heap.size, 0, none⟩) 3 3, .slice P2 3 3, .slice O2 3 d2] 25)).alloc (.cells #[.slice (some ⟨U2.heap.size, 0, none⟩) 3 3, .slice P3 3 3, .slice O3 3 d3] 25)
  have hb2 := (Blk.new (U3.alloc (.cells #[.slice (some ⟨w.heap.size, 0, none⟩) 3 3, .slice P1 3 3, .slice O1 3 d1] 25)) 25 #[.slice (some ⟨U1.heap.size, 0, none⟩) 3 3, .slice P2 3 3, .slice O2 3 d2]).alloc (.cells #[.slice (some ⟨U2.heap.size, 0, none⟩) 3 3, .slice P3 3 3, .slice O3 3 d3] 25)
  have hb3 := Blk.new ((U3.alloc (.cells #[.slice (some ⟨w.heap.size, 0, none⟩) 3 3, .slice P1 3 3, .slice O1 3 d1] 25)).alloc (.cells #[.slice (some ⟨U1.heap.size, 0, none⟩) 3 3, .slice P2 3 3, .slice O2 3 d2] 25)) 25 #[.slice (some ⟨U2.heap.size, 0, none⟩) 3 3, .slice P3 3 3, .slice O3 3 d3]
  rw [World.size_alloc] at hb2
  rw [World.size_alloc, World.size_alloc] at hb3
  have HA := Lib.hid (KS.mk hb1 (H1.out.later hb))
  have HB := Lib.hid (KS.mk hb2 (H2.out.later hb))
  have HC := Lib.hid (KS.mk hb3 (H3.out.later hb))
  have HW2 := Lib.hid (HW.out.later hb)
  clear hb hb1 hb2 hb3 H1 H2 H3 HW
  have HW := HW2
  clear HW2
  generalize (((U3.alloc (.cells #[.slice (some ⟨w.heap.size, 0, none⟩) 3 3, .slice P1 3 3, .slice O1 3 d1] 25)).alloc (.cells #[.slice (some ⟨U1.heap.size, 0, none⟩) 3 3, .slice P2 3 3, .slice O2 3 d2] 25)).alloc (.cells #[.slice (some ⟨U2.heap.size, 0, none⟩) 3 3, .slice P3 3 3, .slice O3 3 d3] 25)) = W0 at *
  generalize (some ⟨w.heap.size, 0, none⟩ : Option Addr) = A1 at *
  generalize (some ⟨U1.heap.size, 0, none⟩ : Option Addr) = A2 at *
  generalize (some ⟨U2.heap.size, 0, none⟩ : Option Addr) = A3 at *
  generalize U3.heap.size = B1 at *
  obtain ⟨B2, hB2⟩ : ∃ B2, B1 + 1 = B2 := ⟨_, rfl⟩
  rw [hB2] at HB HC ⊢
  obtain ⟨B3, hB3⟩ : ∃ B3, B2 + 1 = B3 := ⟨_, rfl⟩
  rw [hB3] at HC ⊢
  clear hB2 hB3
  clear U1 U2 U3
  have a0 := HA.out.b.cell 0
  have a1 := HA.out.b.cell 1
  have a2 := HA.out.b.cell 2
  have a3 := HA.out.b.lt
  have b0 := HB.out.b.cell 0
  have b1 := HB.out.b.cell 1
  have b2 := HB.out.b.cell 2
  have b3 := HB.out.b.lt
  have c0 := HC.out.b.cell 0
  have c1 := HC.out.b.cell 1
  have c2 := HC.out.b.cell 2
  have c3 := HC.out.b.lt
  refine dag 15 (by kernel_rfl) (by kernel_rfl) (.is ?_ :: .like (IsInts 3 [2, 0, 0]) :: .like (IsInts 3 [2, 0, 0]) :: .like (IsInts 3 [1, 3, 0]) :: .like (IsInts 3 [1, 3, 0]) :: .like (IsInts 3 [0, 1, 3]) :: .like (IsInts 3 [0, 1, 3]) :: .like (IsRows [[2, 0, 0], [1, 3, 0], [0, 1, 3]]) :: .like (IsRows [[2, 0, 0], [1, 3, 0], [0, 1, 3]]) :: .is (.tuple #[.int .i64 53, .int .i64 0]) :: .is ?_ :: .is ?_ :: .is ?_ :: .is ?_ :: .is ?_ :: []) rfl ?st1 ?ob1
  case st1 => repeat (first | exact stab_nil | refine stab_is ?_ | refine stab_like IsInts.stab ?_ | refine stab_like IsRows.stab ?_)
  case ob1 =>
  intro env1 V1 hG
  obtain ⟨hc, hf⟩ := bcell hG
  have HG := Lib.hid hG
  clear hG
  iterate 1 (refine obls_is ?_ ?_; unfold doesAt; go_simp; (try go_bits); (first | (refine ⟨brefl _, ?_⟩; rfl) | rfl); intro K hK; go_simp; refine hK _ ?_; clear hK K)
  refine obls_like (fun _ => ?_) ?_
  · unfold doesAt
    go_simp
    exact ⟨balloc (brefl _) _, _, _, rfl, lit_sl (xs := [2, 0, 0]) (Blk.new _ _ _) (by simp) rfl (by omega)⟩
  intro K hK
  go_simp
  refine hK _ ?_
  clear hK K
  refine obls_like (fun hl => ?_) ?_
  · obtain ⟨G, c, hE, hsl⟩ : IsInts 3 [2, 0, 0] (env1 1) V1 := hl ⟨1, .data⟩ (by simp) rfl
    have Hsl := Lib.hid hsl
    clear hsl
    unfold doesAt
    go_simp
    refine (longs_any G 3 c V1).mono ?_
    rintro e w3 ⟨rfl, hb3⟩
    exact ⟨_, rfl, hb3, G, c, rfl, Hsl.out.later hb3⟩
  intro K hK
  go_simp
  refine hK _ ?_
  clear hK K
  refine obls_like (fun _ => ?_) ?_
  · unfold doesAt
    go_simp
    exact ⟨balloc (brefl _) _, _, _, rfl, lit_sl (xs := [1, 3, 0]) (Blk.new _ _ _) (by simp) rfl (by omega)⟩
  intro K hK
  go_simp
  refine hK _ ?_
  clear hK K
  refine obls_like (fun hl => ?_) ?_
  · obtain ⟨G, c, hE, hsl⟩ : IsInts 3 [1, 3, 0] (env1 3) V1 := hl ⟨3, .data⟩ (by simp) rfl
    have Hsl := Lib.hid hsl
    clear hsl
    unfold doesAt
    go_simp
    refine (longs_any G 3 c V1).mono ?_
    rintro e w3 ⟨rfl, hb3⟩
    exact ⟨_, rfl, hb3, G, c, rfl, Hsl.out.later hb3⟩
  intro K hK
  go_simp
  refine hK _ ?_
  clear hK K
  refine obls_like (fun _ => ?_) ?_
  · unfold doesAt
    go_simp
    exact ⟨balloc (brefl _) _, _, _, rfl, lit_sl (xs := [0, 1, 3]) (Blk.new _ _ _) (by simp) rfl (by omega)⟩
  intro K hK
  go_simp
  refine hK _ ?_
  clear hK K
  refine obls_like (fun hl => ?_) ?_
  · obtain ⟨G, c, hE, hsl⟩ : IsInts 3 [0, 1, 3] (env1 5) V1 := hl ⟨5, .data⟩ (by simp) rfl
    have Hsl := Lib.hid hsl
    clear hsl
    unfold doesAt
    go_simp
    refine (longs_any G 3 c V1).mono ?_
    rintro e w3 ⟨rfl, hb3⟩
    exact ⟨_, rfl, hb3, G, c, rfl, Hsl.out.later hb3⟩
  intro K hK
  go_simp
  refine hK _ ?_
  clear hK K
  refine obls_like (fun hl => ?_) ?_
  · obtain ⟨G1, c1, hE1, hs1⟩ : IsInts 3 [2, 0, 0] (env1 2) V1 := hl ⟨2, .data⟩ (by simp) rfl
    obtain ⟨G2, c2, hE2, hs2⟩ : IsInts 3 [1, 3, 0] (env1 4) V1 := hl ⟨4, .data⟩ (by simp) rfl
    obtain ⟨G3, c3, hE3, hs3⟩ : IsInts 3 [0, 1, 3] (env1 6) V1 := hl ⟨6, .data⟩ (by simp) rfl
    have hbn := Blk.new V1 22 #[.slice G1 3 c1, .slice G2 3 c2, .slice G3 3 c3]
    have hba := balloc (brefl V1) (.cells #[.slice G1 3 c1, .slice G2 3 c2, .slice G3 3 c3] 22)
    have Hr := Lib.hid (rows_three hbn (hs1.later hba) (hs2.later hba) (hs3.later hba))
    have Hba := Lib.hid hba
    clear hbn hba hs1 hs2 hs3
    unfold doesAt
    simp only [hE1, hE2, hE3]
    go_simp
    exact ⟨Hba.out, _, _, _, rfl, Hr.out, rfl⟩
  intro K hK
  go_simp
  refine hK _ ?_
  clear hK K
  refine obls_like (fun hl => ?_) ?_
  · obtain ⟨G, c, L, hE, hfl, hX⟩ : IsRows [[2, 0, 0], [1, 3, 0], [0, 1, 3]] (env1 7) V1 := hl ⟨7, .data⟩ (by simp) rfl
    have Hfl := Lib.hid hfl
    have HX := Lib.hid hX
    clear hfl hX
    unfold doesAt
    go_simp
    refine (rows_call G 3 c V1).mono ?_
    rintro e w3 ⟨rfl, hb3⟩
    exact ⟨_, rfl, hb3, G, c, L, rfl, Hfl.out.later hb3, HX.out⟩
  intro K hK
  go_simp
  refine hK _ ?_
  clear hK K
  refine obls_isL (fun hl => ?_) ?_
  · obtain ⟨G, c, L, hE, hfl, hX⟩ : IsRows [[2, 0, 0], [1, 3, 0], [0, 1, 3]] (env1 8) V1 := hl ⟨8, .data⟩ (by simp) rfl
    have Hfl := Lib.hid hfl
    have HX := Lib.hid hX
    clear hfl hX
    unfold doesAt
    go_simp
    refine (t_fill (HA.out.later HG.out) x_f1 Hfl.out HX.out).mono ?_
    rintro e w3 ⟨rfl, hb3⟩
    exact ⟨rfl, hb3⟩
  intro K hK
  go_simp
  refine hK _ ?_
  clear hK K
  repeat (refine obls_is ?_ ?_; unfold doesAt; go_simp; (try go_bits); (first | (refine ⟨brefl _, ?_⟩; rfl) | rfl); intro K hK; go_simp; refine hK _ ?_; clear hK K)
  refine obls_nil (fun _ => ?_)
  clear a0 a1 a2 a3 b0 b1 b2 b3 c0 c1 c2 c3
  have HWn := Lib.hid (HW.out.later HG.out)
  have HAn := Lib.hid (HA.out.later HG.out)
  have HBn := Lib.hid (HB.out.later HG.out)
  have HCn := Lib.hid (HC.out.later HG.out)
  clear HW HA HB HC
  have HW := HWn
  have HA := HAn
  have HB := HBn
  have HC := HCn
  clear HWn HAn HBn HCn
  clear hc hf HG
  have a0 := HA.out.b.cell 0
  have a1 := HA.out.b.cell 1
  have a2 := HA.out.b.cell 2
  have a3 := HA.out.b.lt
  have b0 := HB.out.b.cell 0
  have b1 := HB.out.b.cell 1
  have b2 := HB.out.b.cell 2
  have b3 := HB.out.b.lt
  have c0 := HC.out.b.cell 0
  have c1 := HC.out.b.cell 1
  have c2 := HC.out.b.cell 2
  have c3 := HC.out.b.lt
  go_wp2_with fail
  refine dag 15 (by kernel_rfl) (by kernel_rfl) (.is ?_ :: .like (IsInts 3 [1, 1, 0]) :: .like (IsInts 3 [1, 1, 0]) :: .like (IsInts 3 [0, 4, 0]) :: .like (IsInts 3 [0, 4, 0]) :: .like (IsInts 3 [0, 0, 4]) :: .like (IsInts 3 [0, 0, 4]) :: .like (IsRows [[1, 1, 0], [0, 4, 0], [0, 0, 4]]) :: .like (IsRows [[1, 1, 0], [0, 4, 0], [0, 0, 4]]) :: .is (.tuple #[.int .i64 0, .int .i64 25]) :: .is ?_ :: .is ?_ :: .is ?_ :: .is ?_ :: .is ?_ :: []) rfl ?st2 ?ob2
  case st2 => repeat (first | exact stab_nil | refine stab_is ?_ | refine stab_like IsInts.stab ?_ | refine stab_like IsRows.stab ?_)
  case ob2 =>
  intro env2 V2 hG
  obtain ⟨hc, hf⟩ := bcell hG
  have HG := Lib.hid hG
  clear hG
  iterate 1 (refine obls_is ?_ ?_; unfold doesAt; go_simp; (try go_bits); (first | (refine ⟨brefl _, ?_⟩; rfl) | rfl); intro K hK; go_simp; refine hK _ ?_; clear hK K)
  refine obls_like (fun _ => ?_) ?_
  · unfold doesAt
    go_simp
    exact ⟨balloc (brefl _) _, _, _, rfl, lit_sl (xs := [1, 1, 0]) (Blk.new _ _ _) (by simp) rfl (by omega)⟩
  intro K hK
  go_simp
  refine hK _ ?_
  clear hK K
  refine obls_like (fun hl => ?_) ?_
  · obtain ⟨G, c, hE, hsl⟩ : IsInts 3 [1, 1, 0] (env2 1) V2 := hl ⟨1, .data⟩ (by simp) rfl
    have Hsl := Lib.hid hsl
    clear hsl
    unfold doesAt
    go_simp
    refine (longs_any G 3 c V2).mono ?_
    rintro e w3 ⟨rfl, hb3⟩
    exact ⟨_, rfl, hb3, G, c, rfl, Hsl.out.later hb3⟩
  intro K hK
  go_simp
  refine hK _ ?_
  clear hK K
  refine obls_like (fun _ => ?_) ?_
  · unfold doesAt
    go_simp
    exact ⟨balloc (brefl _) _, _, _, rfl, lit_sl (xs := [0, 4, 0]) (Blk.new _ _ _) (by simp) rfl (by omega)⟩
  intro K hK
  go_simp
  refine hK _ ?_
  clear hK K
  refine obls_like (fun hl => ?_) ?_
  · obtain ⟨G, c, hE, hsl⟩ : IsInts 3 [0, 4, 0] (env2 3) V2 := hl ⟨3, .data⟩ (by simp) rfl
    have Hsl := Lib.hid hsl
    clear hsl
    unfold doesAt
    go_simp
    refine (longs_any G 3 c V2).mono ?_
    rintro e w3 ⟨rfl, hb3⟩
    exact ⟨_, rfl, hb3, G, c, rfl, Hsl.out.later hb3⟩
  intro K hK
  go_simp
  refine hK _ ?_
  clear hK K
  refine obls_like (fun _ => ?_) ?_
  · unfold doesAt
    go_simp
    exact ⟨balloc (brefl _) _, _, _, rfl, lit_sl (xs := [0, 0, 4]) (Blk.new _ _ _) (by simp) rfl (by omega)⟩
  intro K hK
  go_simp
  refine hK _ ?_
  clear hK K
  refine obls_like (fun hl => ?_) ?_
  · obtain ⟨G, c, hE, hsl⟩ : IsInts 3 [0, 0, 4] (env2 5) V2 := hl ⟨5, .data⟩ (by simp) rfl
    have Hsl := Lib.hid hsl
    clear hsl
    unfold doesAt
    go_simp
    refine (longs_any G 3 c V2).mono ?_
    rintro e w3 ⟨rfl, hb3⟩
    exact ⟨_, rfl, hb3, G, c, rfl, Hsl.out.later hb3⟩
  intro K hK
  go_simp
  refine hK _ ?_
  clear hK K
  refine obls_like (fun hl => ?_) ?_
  · obtain ⟨G1, c1, hE1, hs1⟩ : IsInts 3 [1, 1, 0] (env2 2) V2 := hl ⟨2, .data⟩ (by simp) rfl
    obtain ⟨G2, c2, hE2, hs2⟩ : IsInts 3 [0, 4, 0] (env2 4) V2 := hl ⟨4, .data⟩ (by simp) rfl
    obtain ⟨G3, c3, hE3, hs3⟩ : IsInts 3 [0, 0, 4] (env2 6) V2 := hl ⟨6, .data⟩ (by simp) rfl
    have hbn := Blk.new V2 22 #[.slice G1 3 c1, .slice G2 3 c2, .slice G3 3 c3]
    have hba := balloc (brefl V2) (.cells #[.slice G1 3 c1, .slice G2 3 c2, .slice G3 3 c3] 22)
    have Hr := Lib.hid (rows_three hbn (hs1.later hba) (hs2.later hba) (hs3.later hba))
    have Hba := Lib.hid hba
    clear hbn hba hs1 hs2 hs3
    unfold doesAt
    simp only [hE1, hE2, hE3]
    go_simp
    exact ⟨Hba.out, _, _, _, rfl, Hr.out, rfl⟩
  intro K hK
  go_simp
  refine hK _ ?_
  clear hK K
  refine obls_like (fun hl => ?_) ?_
  · obtain ⟨G, c, L, hE, hfl, hX⟩ : IsRows [[1, 1, 0], [0, 4, 0], [0, 0, 4]] (env2 7) V2 := hl ⟨7, .data⟩ (by simp) rfl
    have Hfl := Lib.hid hfl
    have HX := Lib.hid hX
    clear hfl hX
    unfold doesAt
    go_simp
    refine (rows_call G 3 c V2).mono ?_
    rintro e w3 ⟨rfl, hb3⟩
    exact ⟨_, rfl, hb3, G, c, L, rfl, Hfl.out.later hb3, HX.out⟩
  intro K hK
  go_simp
  refine hK _ ?_
  clear hK K
  refine obls_isL (fun hl => ?_) ?_
  · obtain ⟨G, c, L, hE, hfl, hX⟩ : IsRows [[1, 1, 0], [0, 4, 0], [0, 0, 4]] (env2 8) V2 := hl ⟨8, .data⟩ (by simp) rfl
    have Hfl := Lib.hid hfl
    have HX := Lib.hid hX
    clear hfl hX
    unfold doesAt
    go_simp
    refine (t_fill (HA.out.later HG.out) x_f2 Hfl.out HX.out).mono ?_
    rintro e w3 ⟨rfl, hb3⟩
    exact ⟨rfl, hb3⟩
  intro K hK
  go_simp
  refine hK _ ?_
  clear hK K
  repeat (refine obls_is ?_ ?_; unfold doesAt; go_simp; (try go_bits); (first | (refine ⟨brefl _, ?_⟩; rfl) | rfl); intro K hK; go_simp; refine hK _ ?_; clear hK K)
  refine obls_nil (fun _ => ?_)
  clear a0 a1 a2 a3 b0 b1 b2 b3 c0 c1 c2 c3
  have HWn := Lib.hid (HW.out.later HG.out)
  have HAn := Lib.hid (HA.out.later HG.out)
  have HBn := Lib.hid (HB.out.later HG.out)
  have HCn := Lib.hid (HC.out.later HG.out)
  clear HW HA HB HC
  have HW := HWn
  have HA := HAn
  have HB := HBn
  have HC := HCn
  clear HWn HAn HBn HCn
  clear hc hf HG
  have a0 := HA.out.b.cell 0
  have a1 := HA.out.b.cell 1
  have a2 := HA.out.b.cell 2
  have a3 := HA.out.b.lt
  have b0 := HB.out.b.cell 0
  have b1 := HB.out.b.cell 1
  have b2 := HB.out.b.cell 2
  have b3 := HB.out.b.lt
  have c0 := HC.out.b.cell 0
  have c1 := HC.out.b.cell 1
  have c2 := HC.out.b.cell 2
  have c3 := HC.out.b.lt
  go_wp2_with fail
  refine dag 15 (by kernel_rfl) (by kernel_rfl) (.is ?_ :: .like (IsInts 3 [2, 0, 0]) :: .like (IsInts 3 [2, 0, 0]) :: .like (IsInts 3 [0, 4, 0]) :: .like (IsInts 3 [0, 4, 0]) :: .like (IsInts 3 [0, 0, 3]) :: .like (IsInts 3 [0, 0, 3]) :: .like (IsRows [[2, 0, 0], [0, 4, 0], [0, 0, 3]]) :: .like (IsRows [[2, 0, 0], [0, 4, 0], [0, 0, 3]]) :: .is (.tuple #[.int .i64 0, .int .i64 14]) :: .is ?_ :: .is ?_ :: .is ?_ :: .is ?_ :: .is ?_ :: []) rfl ?st3 ?ob3
  case st3 => repeat (first | exact stab_nil | refine stab_is ?_ | refine stab_like IsInts.stab ?_ | refine stab_like IsRows.stab ?_)
  case ob3 =>
  intro env3 V3 hG
  obtain ⟨hc, hf⟩ := bcell hG
  have HG := Lib.hid hG
  clear hG
  iterate 1 (refine obls_is ?_ ?_; unfold doesAt; go_simp; (try go_bits); (first | (refine ⟨brefl _, ?_⟩; rfl) | rfl); intro K hK; go_simp; refine hK _ ?_; clear hK K)
  refine obls_like (fun _ => ?_) ?_
  · unfold doesAt
    go_simp
    exact ⟨balloc (brefl _) _, _, _, rfl, lit_sl (xs := [2, 0, 0]) (Blk.new _ _ _) (by simp) rfl (by omega)⟩
  intro K hK
  go_simp
  refine hK _ ?_
  clear hK K
  refine obls_like (fun hl => ?_) ?_
  · obtain ⟨G, c, hE, hsl⟩ : IsInts 3 [2, 0, 0] (env3 1) V3 := hl ⟨1, .data⟩ (by simp) rfl
    have Hsl := Lib.hid hsl
    clear hsl
    unfold doesAt
    go_simp
    refine (longs_any G 3 c V3).mono ?_
    rintro e w3 ⟨rfl, hb3⟩
    exact ⟨_, rfl, hb3, G, c, rfl, Hsl.out.later hb3⟩
  intro K hK
  go_simp
  refine hK _ ?_
  clear hK K
  refine obls_like (fun _ => ?_) ?_
  · unfold doesAt
    go_simp
    exact ⟨balloc (brefl _) _, _, _, rfl, lit_sl (xs := [0, 4, 0]) (Blk.new _ _ _) (by simp) rfl (by omega)⟩
  intro K hK
  go_simp
  refine hK _ ?_
  clear hK K
  refine obls_like (fun hl => ?_) ?_
  · obtain ⟨G, c, hE, hsl⟩ : IsInts 3 [0, 4, 0] (env3 3) V3 := hl ⟨3, .data⟩ (by simp) rfl
    have Hsl := Lib.hid hsl
    clear hsl
    unfold doesAt
    go_simp
    refine (longs_any G 3 c V3).mono ?_
    rintro e w3 ⟨rfl, hb3⟩
    exact ⟨_, rfl, hb3, G, c, rfl, Hsl.out.later hb3⟩
  intro K hK
  go_simp
  refine hK _ ?_
  clear hK K
  refine obls_like (fun _ => ?_) ?_
  · unfold doesAt
    go_simp
    exact ⟨balloc (brefl _) _, _, _, rfl, lit_sl (xs := [0, 0, 3]) (Blk.new _ _ _) (by simp) rfl (by omega)⟩
  intro K hK
  go_simp
  refine hK _ ?_
  clear hK K
  refine obls_like (fun hl => ?_) ?_
  · obtain ⟨G, c, hE, hsl⟩ : IsInts 3 [0, 0, 3] (env3 5) V3 := hl ⟨5, .data⟩ (by simp) rfl
    have Hsl := Lib.hid hsl
    clear hsl
    unfold doesAt
    go_simp
    refine (longs_any G 3 c V3).mono ?_
    rintro e w3 ⟨rfl, hb3⟩
    exact ⟨_, rfl, hb3, G, c, rfl, Hsl.out.later hb3⟩
  intro K hK
  go_simp
  refine hK _ ?_
  clear hK K
  refine obls_like (fun hl => ?_) ?_
  · obtain ⟨G1, c1, hE1, hs1⟩ : IsInts 3 [2, 0, 0] (env3 2) V3 := hl ⟨2, .data⟩ (by simp) rfl
    obtain ⟨G2, c2, hE2, hs2⟩ : IsInts 3 [0, 4, 0] (env3 4) V3 := hl ⟨4, .data⟩ (by simp) rfl
    obtain ⟨G3, c3, hE3, hs3⟩ : IsInts 3 [0, 0, 3] (env3 6) V3 := hl ⟨6, .data⟩ (by simp) rfl
    have hbn := Blk.new V3 22 #[.slice G1 3 c1, .slice G2 3 c2, .slice G3 3 c3]
    have hba := balloc (brefl V3) (.cells #[.slice G1 3 c1, .slice G2 3 c2, .slice G3 3 c3] 22)
    have Hr := Lib.hid (rows_three hbn (hs1.later hba) (hs2.later hba) (hs3.later hba))
    have Hba := Lib.hid hba
    clear hbn hba hs1 hs2 hs3
    unfold doesAt
    simp only [hE1, hE2, hE3]
    go_simp
    exact ⟨Hba.out, _, _, _, rfl, Hr.out, rfl⟩
  intro K hK
  go_simp
  refine hK _ ?_
  clear hK K
  refine obls_like (fun hl => ?_) ?_
  · obtain ⟨G, c, L, hE, hfl, hX⟩ : IsRows [[2, 0, 0], [0, 4, 0], [0, 0, 3]] (env3 7) V3 := hl ⟨7, .data⟩ (by simp) rfl
    have Hfl := Lib.hid hfl
    have HX := Lib.hid hX
    clear hfl hX
    unfold doesAt
    go_simp
    refine (rows_call G 3 c V3).mono ?_
    rintro e w3 ⟨rfl, hb3⟩
    exact ⟨_, rfl, hb3, G, c, L, rfl, Hfl.out.later hb3, HX.out⟩
  intro K hK
  go_simp
  refine hK _ ?_
  clear hK K
  refine obls_isL (fun hl => ?_) ?_
  · obtain ⟨G, c, L, hE, hfl, hX⟩ : IsRows [[2, 0, 0], [0, 4, 0], [0, 0, 3]] (env3 8) V3 := hl ⟨8, .data⟩ (by simp) rfl
    have Hfl := Lib.hid hfl
    have HX := Lib.hid hX
    clear hfl hX
    unfold doesAt
    go_simp
    refine (t_fill (HA.out.later HG.out) x_f3 Hfl.out HX.out).mono ?_
    rintro e w3 ⟨rfl, hb3⟩
    exact ⟨rfl, hb3⟩
  intro K hK
  go_simp
  refine hK _ ?_
  clear hK K
  repeat (refine obls_is ?_ ?_; unfold doesAt; go_simp; (try go_bits); (first | (refine ⟨brefl _, ?_⟩; rfl) | rfl); intro K hK; go_simp; refine hK _ ?_; clear hK K)
  refine obls_nil (fun _ => ?_)
  clear a0 a1 a2 a3 b0 b1 b2 b3 c0 c1 c2 c3
  have HWn := Lib.hid (HW.out.later HG.out)
  have HAn := Lib.hid (HA.out.later HG.out)
  have HBn := Lib.hid (HB.out.later HG.out)
  have HCn := Lib.hid (HC.out.later HG.out)
  clear HW HA HB HC
  have HW := HWn
  have HA := HAn
  have HB := HBn
  have HC := HCn
  clear HWn HAn HBn HCn
  clear hc hf HG
  have a0 := HA.out.b.cell 0
  have a1 := HA.out.b.cell 1
  have a2 := HA.out.b.cell 2
  have a3 := HA.out.b.lt
  have b0 := HB.out.b.cell 0
  have b1 := HB.out.b.cell 1
  have b2 := HB.out.b.cell 2
  have b3 := HB.out.b.lt
  have c0 := HC.out.b.cell 0
  have c1 := HC.out.b.cell 1
  have c2 := HC.out.b.cell 2
  have c3 := HC.out.b.lt
  go_wp2_with fail
  refine dag 15 (by kernel_rfl) (by kernel_rfl) (.is ?_ :: .like (IsInts 3 [2, 0, 0]) :: .like (IsInts 3 [2, 0, 0]) :: .like (IsInts 3 [0, 4, 0]) :: .like (IsInts 3 [0, 4, 0]) :: .like (IsInts 3 [0, 1, 3]) :: .like (IsInts 3 [0, 1, 3]) :: .like (IsRows [[2, 0, 0], [0, 4, 0], [0, 1, 3]]) :: .like (IsRows [[2, 0, 0], [0, 4, 0], [0, 1, 3]]) :: .is (.tuple #[.int .i64 0, .int .i64 4]) :: .is ?_ :: .is ?_ :: .is ?_ :: .is ?_ :: .is ?_ :: []) rfl ?st4 ?ob4
  case st4 => repeat (first | exact stab_nil | refine stab_is ?_ | refine stab_like IsInts.stab ?_ | refine stab_like IsRows.stab ?_)
  case ob4 =>
  intro env4 V4 hG
  obtain ⟨hc, hf⟩ := bcell hG
  have HG := Lib.hid hG
  clear hG
  iterate 1 (refine obls_is ?_ ?_; unfold doesAt; go_simp; (try go_bits); (first | (refine ⟨brefl _, ?_⟩; rfl) | rfl); intro K hK; go_simp; refine hK _ ?_; clear hK K)
  refine obls_like (fun _ => ?_) ?_
  · unfold doesAt
    go_simp
    exact ⟨balloc (brefl _) _, _, _, rfl, lit_sl (xs := [2, 0, 0]) (Blk.new _ _ _) (by simp) rfl (by omega)⟩
  intro K hK
  go_simp
  refine hK _ ?_
  clear hK K
  refine obls_like (fun hl => ?_) ?_
  · obtain ⟨G, c, hE, hsl⟩ : IsInts 3 [2, 0, 0] (env4 1) V4 := hl ⟨1, .data⟩ (by simp) rfl
    have Hsl := Lib.hid hsl
    clear hsl
    unfold doesAt
    go_simp
    refine (longs_any G 3 c V4).mono ?_
    rintro e w3 ⟨rfl, hb3⟩
    exact ⟨_, rfl, hb3, G, c, rfl, Hsl.out.later hb3⟩
  intro K hK
  go_simp
  refine hK _ ?_
  clear hK K
  refine obls_like (fun _ => ?_) ?_
  · unfold doesAt
    go_simp
    exact ⟨balloc (brefl _) _, _, _, rfl, lit_sl (xs := [0, 4, 0]) (Blk.new _ _ _) (by simp) rfl (by omega)⟩
  intro K hK
  go_simp
  refine hK _ ?_
  clear hK K
  refine obls_like (fun hl => ?_) ?_
  · obtain ⟨G, c, hE, hsl⟩ : IsInts 3 [0, 4, 0] (env4 3) V4 := hl ⟨3, .data⟩ (by simp) rfl
    have Hsl := Lib.hid hsl
    clear hsl
    unfold doesAt
    go_simp
    refine (longs_any G 3 c V4).mono ?_
    rintro e w3 ⟨rfl, hb3⟩
    exact ⟨_, rfl, hb3, G, c, rfl, Hsl.out.later hb3⟩
  intro K hK
  go_simp
  refine hK _ ?_
  clear hK K
  refine obls_like (fun _ => ?_) ?_
  · unfold doesAt
    go_simp
    exact ⟨balloc (brefl _) _, _, _, rfl, lit_sl (xs := [0, 1, 3]) (Blk.new _ _ _) (by simp) rfl (by omega)⟩
  intro K hK
  go_simp
  refine hK _ ?_
  clear hK K
  refine obls_like (fun hl => ?_) ?_
  · obtain ⟨G, c, hE, hsl⟩ : IsInts 3 [0, 1, 3] (env4 5) V4 := hl ⟨5, .data⟩ (by simp) rfl
    have Hsl := Lib.hid hsl
    clear hsl
    unfold doesAt
    go_simp
    refine (longs_any G 3 c V4).mono ?_
    rintro e w3 ⟨rfl, hb3⟩
    exact ⟨_, rfl, hb3, G, c, rfl, Hsl.out.later hb3⟩
  intro K hK
  go_simp
  refine hK _ ?_
  clear hK K
  refine obls_like (fun hl => ?_) ?_
  · obtain ⟨G1, c1, hE1, hs1⟩ : IsInts 3 [2, 0, 0] (env4 2) V4 := hl ⟨2, .data⟩ (by simp) rfl
    obtain ⟨G2, c2, hE2, hs2⟩ : IsInts 3 [0, 4, 0] (env4 4) V4 := hl ⟨4, .data⟩ (by simp) rfl
    obtain ⟨G3, c3, hE3, hs3⟩ : IsInts 3 [0, 1, 3] (env4 6) V4 := hl ⟨6, .data⟩ (by simp) rfl
    have hbn := Blk.new V4 22 #[.slice G1 3 c1, .slice G2 3 c2, .slice G3 3 c3]
    have hba := balloc (brefl V4) (.cells #[.slice G1 3 c1, .slice G2 3 c2, .slice G3 3 c3] 22)
    have Hr := Lib.hid (rows_three hbn (hs1.later hba) (hs2.later hba) (hs3.later hba))
    have Hba := Lib.hid hba
    clear hbn hba hs1 hs2 hs3
    unfold doesAt
    simp only [hE1, hE2, hE3]
    go_simp
    exact ⟨Hba.out, _, _, _, rfl, Hr.out, rfl⟩
  intro K hK
  go_simp
  refine hK _ ?_
  clear hK K
  refine obls_like (fun hl => ?_) ?_
  · obtain ⟨G, c, L, hE, hfl, hX⟩ : IsRows [[2, 0, 0], [0, 4, 0], [0, 1, 3]] (env4 7) V4 := hl ⟨7, .data⟩ (by simp) rfl
    have Hfl := Lib.hid hfl
    have HX := Lib.hid hX
    clear hfl hX
    unfold doesAt
    go_simp
    refine (rows_call G 3 c V4).mono ?_
    rintro e w3 ⟨rfl, hb3⟩
    exact ⟨_, rfl, hb3, G, c, L, rfl, Hfl.out.later hb3, HX.out⟩
  intro K hK
  go_simp
  refine hK _ ?_
  clear hK K
  refine obls_isL (fun hl => ?_) ?_
  · obtain ⟨G, c, L, hE, hfl, hX⟩ : IsRows [[2, 0, 0], [0, 4, 0], [0, 1, 3]] (env4 8) V4 := hl ⟨8, .data⟩ (by simp) rfl
    have Hfl := Lib.hid hfl
    have HX := Lib.hid hX
    clear hfl hX
    unfold doesAt
    go_simp
    refine (t_fill (HA.out.later HG.out) x_f4 Hfl.out HX.out).mono ?_
    rintro e w3 ⟨rfl, hb3⟩
    exact ⟨rfl, hb3⟩
  intro K hK
  go_simp
  refine hK _ ?_
  clear hK K
  repeat (refine obls_is ?_ ?_; unfold doesAt; go_simp; (try go_bits); (first | (refine ⟨brefl _, ?_⟩; rfl) | rfl); intro K hK; go_simp; refine hK _ ?_; clear hK K)
  refine obls_nil (fun _ => ?_)
  clear a0 a1 a2 a3 b0 b1 b2 b3 c0 c1 c2 c3
  have HWn := Lib.hid (HW.out.later HG.out)
  have HAn := Lib.hid (HA.out.later HG.out)
  have HBn := Lib.hid (HB.out.later HG.out)
  have HCn := Lib.hid (HC.out.later HG.out)
  clear HW HA HB HC
  have HW := HWn
  have HA := HAn
  have HB := HBn
  have HC := HCn
  clear HWn HAn HBn HCn
  clear hc hf HG
  have a0 := HA.out.b.cell 0
  have a1 := HA.out.b.cell 1
  have a2 := HA.out.b.cell 2
  have a3 := HA.out.b.lt
  have b0 := HB.out.b.cell 0
  have b1 := HB.out.b.cell 1
  have b2 := HB.out.b.cell 2
  have b3 := HB.out.b.lt
  have c0 := HC.out.b.cell 0
  have c1 := HC.out.b.cell 1
  have c2 := HC.out.b.cell 2
  have c3 := HC.out.b.lt
  go_wp2_with fail
  refine (t_short HB.out x_s1).mono ?_
  rintro e U5 ⟨rfl, hb⟩
  clear a0 a1 a2 a3 b0 b1 b2 b3 c0 c1 c2 c3
  have HWn := Lib.hid (HW.out.later hb)
  have HAn := Lib.hid (HA.out.later hb)
  have HBn := Lib.hid (HB.out.later hb)
  have HCn := Lib.hid (HC.out.later hb)
  clear HW HA HB HC
  have HW := HWn
  have HA := HAn
  have HB := HBn
  have HC := HCn
  clear HWn HAn HBn HCn
  clear hb
  have a0 := HA.out.b.cell 0
  have a1 := HA.out.b.cell 1
  have a2 := HA.out.b.cell 2
  have a3 := HA.out.b.lt
  have b0 := HB.out.b.cell 0
  have b1 := HB.out.b.cell 1
  have b2 := HB.out.b.cell 2
  have b3 := HB.out.b.lt
  have c0 := HC.out.b.cell 0
  have c1 := HC.out.b.cell 1
  have c2 := HC.out.b.cell 2
  have c3 := HC.out.b.lt
  go_wp2_with fail
  refine (t_short HB.out x_s2).mono ?_
  rintro e U6 ⟨rfl, hb⟩
  clear a0 a1 a2 a3 b0 b1 b2 b3 c0 c1 c2 c3
  have HWn := Lib.hid (HW.out.later hb)
  have HAn := Lib.hid (HA.out.later hb)
  have HBn := Lib.hid (HB.out.later hb)
  have HCn := Lib.hid (HC.out.later hb)
  clear HW HA HB HC
  have HW := HWn
  have HA := HAn
  have HB := HBn
  have HC := HCn
  clear HWn HAn HBn HCn
  clear hb
  have a0 := HA.out.b.cell 0
  have a1 := HA.out.b.cell 1
  have a2 := HA.out.b.cell 2
  have a3 := HA.out.b.lt
  have b0 := HB.out.b.cell 0
  have b1 := HB.out.b.cell 1
  have b2 := HB.out.b.cell 2
  have b3 := HB.out.b.lt
  have c0 := HC.out.b.cell 0
  have c1 := HC.out.b.cell 1
  have c2 := HC.out.b.cell 2
  have c3 := HC.out.b.lt
  go_wp2_with fail
  refine (t_first HB.out x_sh).mono ?_
  rintro e U7 ⟨rfl, hb⟩
  clear a0 a1 a2 a3 b0 b1 b2 b3 c0 c1 c2 c3
  have HWn := Lib.hid (HW.out.later hb)
  have HAn := Lib.hid (HA.out.later hb)
  have HBn := Lib.hid (HB.out.later hb)
  have HCn := Lib.hid (HC.out.later hb)
  clear HW HA HB HC
  have HW := HWn
  have HA := HAn
  have HB := HBn
  have HC := HCn
  clear HWn HAn HBn HCn
  clear hb
  have a0 := HA.out.b.cell 0
  have a1 := HA.out.b.cell 1
  have a2 := HA.out.b.cell 2
  have a3 := HA.out.b.lt
  have b0 := HB.out.b.cell 0
  have b1 := HB.out.b.cell 1
  have b2 := HB.out.b.cell 2
  have b3 := HB.out.b.lt
  have c0 := HC.out.b.cell 0
  have c1 := HC.out.b.cell 1
  have c2 := HC.out.b.cell 2
  have c3 := HC.out.b.lt
  go_wp2_with fail
  refine (t_first HA.out x_sh2).mono ?_
  rintro e U8 ⟨rfl, hb⟩
  clear a0 a1 a2 a3 b0 b1 b2 b3 c0 c1 c2 c3
  have HWn := Lib.hid (HW.out.later hb)
  have HAn := Lib.hid (HA.out.later hb)
  have HBn := Lib.hid (HB.out.later hb)
  have HCn := Lib.hid (HC.out.later hb)
  clear HW HA HB HC
  have HW := HWn
  have HA := HAn
  have HB := HBn
  have HC := HCn
  clear HWn HAn HBn HCn
  clear hb
  have a0 := HA.out.b.cell 0
  have a1 := HA.out.b.cell 1
  have a2 := HA.out.b.cell 2
  have a3 := HA.out.b.lt
  have b0 := HB.out.b.cell 0
  have b1 := HB.out.b.cell 1
  have b2 := HB.out.b.cell 2
  have b3 := HB.out.b.lt
  have c0 := HC.out.b.cell 0
  have c1 := HC.out.b.cell 1
  have c2 := HC.out.b.cell 2
  have c3 := HC.out.b.lt
  go_wp2_with fail
  refine (t_spent HC.out rfl x_fil.2.2).mono ?_
  rintro e U9 ⟨g1, rfl, hb, hsl⟩
  clear a0 a1 a2 a3 b0 b1 b2 b3 c0 c1 c2 c3
  have HWn := Lib.hid (HW.out.later hb)
  have HAn := Lib.hid (HA.out.later hb)
  have HBn := Lib.hid (HB.out.later hb)
  have HCn := Lib.hid (HC.out.later hb)
  clear HW HA HB HC
  have HW := HWn
  have HA := HAn
  have HB := HBn
  have HC := HCn
  clear HWn HAn HBn HCn
  have FS := Lib.hid hsl
  clear hb hsl
  have a0 := HA.out.b.cell 0
  have a1 := HA.out.b.cell 1
  have a2 := HA.out.b.cell 2
  have a3 := HA.out.b.lt
  have b0 := HB.out.b.cell 0
  have b1 := HB.out.b.cell 1
  have b2 := HB.out.b.cell 2
  have b3 := HB.out.b.lt
  have c0 := HC.out.b.cell 0
  have c1 := HC.out.b.cell 1
  have c2 := HC.out.b.cell 2
  have c3 := HC.out.b.lt
  go_wp2_with fail
  refine (t_least HC.out rfl x_fil.2.2 x_le.1).mono ?_
  rintro e U10 ⟨rfl, hb⟩
  clear a0 a1 a2 a3 b0 b1 b2 b3 c0 c1 c2 c3
  have HWn := Lib.hid (HW.out.later hb)
  have HAn := Lib.hid (HA.out.later hb)
  have HBn := Lib.hid (HB.out.later hb)
  have HCn := Lib.hid (HC.out.later hb)
  have FSn := Lib.hid (FS.out.later hb)
  clear HW HA HB HC FS
  have HW := HWn
  have HA := HAn
  have HB := HBn
  have HC := HCn
  have FS := FSn
  clear HWn HAn HBn HCn FSn
  clear hb
  have a0 := HA.out.b.cell 0
  have a1 := HA.out.b.cell 1
  have a2 := HA.out.b.cell 2
  have a3 := HA.out.b.lt
  have b0 := HB.out.b.cell 0
  have b1 := HB.out.b.cell 1
  have b2 := HB.out.b.cell 2
  have b3 := HB.out.b.lt
  have c0 := HC.out.b.cell 0
  have c1 := HC.out.b.cell 1
  have c2 := HC.out.b.cell 2
  have c3 := HC.out.b.lt
  go_wp2_with fail
  refine (t_leastB HB.out).mono ?_
  rintro e U11 ⟨rfl, hb⟩
  clear a0 a1 a2 a3 b0 b1 b2 b3 c0 c1 c2 c3
  have HWn := Lib.hid (HW.out.later hb)
  have HAn := Lib.hid (HA.out.later hb)
  have HBn := Lib.hid (HB.out.later hb)
  have HCn := Lib.hid (HC.out.later hb)
  have FSn := Lib.hid (FS.out.later hb)
  clear HW HA HB HC FS
  have HW := HWn
  have HA := HAn
  have HB := HBn
  have HC := HCn
  have FS := FSn
  clear HWn HAn HBn HCn FSn
  clear hb
  have a0 := HA.out.b.cell 0
  have a1 := HA.out.b.cell 1
  have a2 := HA.out.b.cell 2
  have a3 := HA.out.b.lt
  have b0 := HB.out.b.cell 0
  have b1 := HB.out.b.cell 1
  have b2 := HB.out.b.cell 2
  have b3 := HB.out.b.lt
  have c0 := HC.out.b.cell 0
  have c1 := HC.out.b.cell 1
  have c2 := HC.out.b.cell 2
  have c3 := HC.out.b.lt
  go_wp2_with fail
  refine (t_give HA.out).mono ?_
  rintro e U12 ⟨G2, k2, L2, rfl, hb, hfl, hfe⟩
  clear a0 a1 a2 a3 b0 b1 b2 b3 c0 c1 c2 c3
  have HWn := Lib.hid (HW.out.later hb)
  have HAn := Lib.hid (HA.out.later hb)
  have HBn := Lib.hid (HB.out.later hb)
  have HCn := Lib.hid (HC.out.later hb)
  have FSn := Lib.hid (FS.out.later hb)
  clear HW HA HB HC FS
  have HW := HWn
  have HA := HAn
  have HB := HBn
  have HC := HCn
  have FS := FSn
  clear HWn HAn HBn HCn FSn
  have FF := Lib.hid hfl
  have FE := Lib.hid hfe
  clear hb hfl hfe
  have a0 := HA.out.b.cell 0
  have a1 := HA.out.b.cell 1
  have a2 := HA.out.b.cell 2
  have a3 := HA.out.b.lt
  have b0 := HB.out.b.cell 0
  have b1 := HB.out.b.cell 1
  have b2 := HB.out.b.cell 2
  have b3 := HB.out.b.lt
  have c0 := HC.out.b.cell 0
  have c1 := HC.out.b.cell 1
  have c2 := HC.out.b.cell 2
  have c3 := HC.out.b.lt
  go_wp2_with fail
  refine dag 9 (by kernel_rfl) (by kernel_rfl) (.is ?_ :: .like (IsInts 3 [0, 4, 7]) :: .like (IsInts 3 [0, 4, 7]) :: .is (.tuple #[.int .i64 53, .int .i64 0]) :: .is ?_ :: .is ?_ :: .is ?_ :: .is ?_ :: .is ?_ :: []) rfl ?st13 ?ob13
  case st13 => repeat (first | exact stab_nil | refine stab_is ?_ | refine stab_like IsInts.stab ?_)
  case ob13 =>
  intro env13 V13 hG
  obtain ⟨hc, hf⟩ := bcell hG
  have HG := Lib.hid hG
  clear hG
  iterate 1 (refine obls_is ?_ ?_; unfold doesAt; go_simp; (try go_bits); (first | (refine ⟨brefl _, ?_⟩; rfl) | rfl); intro K hK; go_simp; refine hK _ ?_; clear hK K)
  refine obls_like (fun _ => ?_) ?_
  · unfold doesAt
    go_simp
    exact ⟨balloc (brefl _) _, _, _, rfl, lit_sl (xs := [0, 4, 7]) (Blk.new _ _ _) (by simp) rfl (by omega)⟩
  intro K hK
  go_simp
  refine hK _ ?_
  clear hK K
  refine obls_like (fun hl => ?_) ?_
  · obtain ⟨G, c, hE, hsl⟩ : IsInts 3 [0, 4, 7] (env13 1) V13 := hl ⟨1, .data⟩ (by simp) rfl
    have Hsl := Lib.hid hsl
    clear hsl
    unfold doesAt
    go_simp
    refine (longs_any G 3 c V13).mono ?_
    rintro e w3 ⟨rfl, hb3⟩
    exact ⟨_, rfl, hb3, G, c, rfl, Hsl.out.later hb3⟩
  intro K hK
  go_simp
  refine hK _ ?_
  clear hK K
  refine obls_isL (fun hl => ?_) ?_
  · obtain ⟨G, c, hE, hsl⟩ : IsInts 3 [0, 4, 7] (env13 2) V13 := hl ⟨2, .data⟩ (by simp) rfl
    have Hsl := Lib.hid hsl
    clear hsl
    unfold doesAt
    go_simp
    refine (t_proof (HC.out.later HG.out) x_p1 Hsl.out).mono ?_
    rintro e w3 ⟨rfl, hb3⟩
    exact ⟨rfl, hb3⟩
  intro K hK
  go_simp
  refine hK _ ?_
  clear hK K
  repeat (refine obls_is ?_ ?_; unfold doesAt; go_simp; (try go_bits); (first | (refine ⟨brefl _, ?_⟩; rfl) | rfl); intro K hK; go_simp; refine hK _ ?_; clear hK K)
  refine obls_nil (fun _ => ?_)
  clear a0 a1 a2 a3 b0 b1 b2 b3 c0 c1 c2 c3
  have HWn := Lib.hid (HW.out.later HG.out)
  have HAn := Lib.hid (HA.out.later HG.out)
  have HBn := Lib.hid (HB.out.later HG.out)
  have HCn := Lib.hid (HC.out.later HG.out)
  have FSn := Lib.hid (FS.out.later HG.out)
  have FFn := Lib.hid (FF.out.later HG.out)
  clear HW HA HB HC FS FF
  have HW := HWn
  have HA := HAn
  have HB := HBn
  have HC := HCn
  have FS := FSn
  have FF := FFn
  clear HWn HAn HBn HCn FSn FFn
  clear hc hf HG
  have a0 := HA.out.b.cell 0
  have a1 := HA.out.b.cell 1
  have a2 := HA.out.b.cell 2
  have a3 := HA.out.b.lt
  have b0 := HB.out.b.cell 0
  have b1 := HB.out.b.cell 1
  have b2 := HB.out.b.cell 2
  have b3 := HB.out.b.lt
  have c0 := HC.out.b.cell 0
  have c1 := HC.out.b.cell 1
  have c2 := HC.out.b.cell 2
  have c3 := HC.out.b.lt
  go_wp2_with fail
  refine dag 9 (by kernel_rfl) (by kernel_rfl) (.is ?_ :: .like (IsInts 2 [0, 0]) :: .like (IsInts 2 [0, 0]) :: .is (.tuple #[.int .i64 0, .int .i64 15]) :: .is ?_ :: .is ?_ :: .is ?_ :: .is ?_ :: .is ?_ :: []) rfl ?st14 ?ob14
  case st14 => repeat (first | exact stab_nil | refine stab_is ?_ | refine stab_like IsInts.stab ?_)
  case ob14 =>
  intro env14 V14 hG
  obtain ⟨hc, hf⟩ := bcell hG
  have HG := Lib.hid hG
  clear hG
  iterate 1 (refine obls_is ?_ ?_; unfold doesAt; go_simp; (try go_bits); (first | (refine ⟨brefl _, ?_⟩; rfl) | rfl); intro K hK; go_simp; refine hK _ ?_; clear hK K)
  refine obls_like (fun _ => ?_) ?_
  · unfold doesAt
    go_simp
    exact ⟨balloc (brefl _) _, _, _, rfl, lit_sl (xs := [0, 0]) (Blk.new _ _ _) (by simp) rfl (by omega)⟩
  intro K hK
  go_simp
  refine hK _ ?_
  clear hK K
  refine obls_like (fun hl => ?_) ?_
  · obtain ⟨G, c, hE, hsl⟩ : IsInts 2 [0, 0] (env14 1) V14 := hl ⟨1, .data⟩ (by simp) rfl
    have Hsl := Lib.hid hsl
    clear hsl
    unfold doesAt
    go_simp
    refine (longs_any G 2 c V14).mono ?_
    rintro e w3 ⟨rfl, hb3⟩
    exact ⟨_, rfl, hb3, G, c, rfl, Hsl.out.later hb3⟩
  intro K hK
  go_simp
  refine hK _ ?_
  clear hK K
  refine obls_isL (fun hl => ?_) ?_
  · obtain ⟨G, c, hE, hsl⟩ : IsInts 2 [0, 0] (env14 2) V14 := hl ⟨2, .data⟩ (by simp) rfl
    have Hsl := Lib.hid hsl
    clear hsl
    unfold doesAt
    go_simp
    refine (t_proof (HC.out.later HG.out) x_p2 Hsl.out).mono ?_
    rintro e w3 ⟨rfl, hb3⟩
    exact ⟨rfl, hb3⟩
  intro K hK
  go_simp
  refine hK _ ?_
  clear hK K
  repeat (refine obls_is ?_ ?_; unfold doesAt; go_simp; (try go_bits); (first | (refine ⟨brefl _, ?_⟩; rfl) | rfl); intro K hK; go_simp; refine hK _ ?_; clear hK K)
  refine obls_nil (fun _ => ?_)
  clear a0 a1 a2 a3 b0 b1 b2 b3 c0 c1 c2 c3
  have HWn := Lib.hid (HW.out.later HG.out)
  have HAn := Lib.hid (HA.out.later HG.out)
  have HBn := Lib.hid (HB.out.later HG.out)
  have HCn := Lib.hid (HC.out.later HG.out)
  have FSn := Lib.hid (FS.out.later HG.out)
  have FFn := Lib.hid (FF.out.later HG.out)
  clear HW HA HB HC FS FF
  have HW := HWn
  have HA := HAn
  have HB := HBn
  have HC := HCn
  have FS := FSn
  have FF := FFn
  clear HWn HAn HBn HCn FSn FFn
  clear hc hf HG
  have a0 := HA.out.b.cell 0
  have a1 := HA.out.b.cell 1
  have a2 := HA.out.b.cell 2
  have a3 := HA.out.b.lt
  have b0 := HB.out.b.cell 0
  have b1 := HB.out.b.cell 1
  have b2 := HB.out.b.cell 2
  have b3 := HB.out.b.lt
  have c0 := HC.out.b.cell 0
  have c1 := HC.out.b.cell 1
  have c2 := HC.out.b.cell 2
  have c3 := HC.out.b.lt
  go_wp2_with fail
  refine dag 9 (by kernel_rfl) (by kernel_rfl) (.is ?_ :: .like (IsInts 3 [0, 0, 101]) :: .like (IsInts 3 [0, 0, 101]) :: .is (.tuple #[.int .i64 0, .int .i64 3]) :: .is ?_ :: .is ?_ :: .is ?_ :: .is ?_ :: .is ?_ :: []) rfl ?st15 ?ob15
  case st15 => repeat (first | exact stab_nil | refine stab_is ?_ | refine stab_like IsInts.stab ?_)
  case ob15 =>
  intro env15 V15 hG
  obtain ⟨hc, hf⟩ := bcell hG
  have HG := Lib.hid hG
  clear hG
  iterate 1 (refine obls_is ?_ ?_; unfold doesAt; go_simp; (try go_bits); (first | (refine ⟨brefl _, ?_⟩; rfl) | rfl); intro K hK; go_simp; refine hK _ ?_; clear hK K)
  refine obls_like (fun _ => ?_) ?_
  · unfold doesAt
    go_simp
    exact ⟨balloc (brefl _) _, _, _, rfl, lit_sl (xs := [0, 0, 101]) (Blk.new _ _ _) (by simp) rfl (by omega)⟩
  intro K hK
  go_simp
  refine hK _ ?_
  clear hK K
  refine obls_like (fun hl => ?_) ?_
  · obtain ⟨G, c, hE, hsl⟩ : IsInts 3 [0, 0, 101] (env15 1) V15 := hl ⟨1, .data⟩ (by simp) rfl
    have Hsl := Lib.hid hsl
    clear hsl
    unfold doesAt
    go_simp
    refine (longs_any G 3 c V15).mono ?_
    rintro e w3 ⟨rfl, hb3⟩
    exact ⟨_, rfl, hb3, G, c, rfl, Hsl.out.later hb3⟩
  intro K hK
  go_simp
  refine hK _ ?_
  clear hK K
  refine obls_isL (fun hl => ?_) ?_
  · obtain ⟨G, c, hE, hsl⟩ : IsInts 3 [0, 0, 101] (env15 2) V15 := hl ⟨2, .data⟩ (by simp) rfl
    have Hsl := Lib.hid hsl
    clear hsl
    unfold doesAt
    go_simp
    refine (t_proof (HC.out.later HG.out) x_p3 Hsl.out).mono ?_
    rintro e w3 ⟨rfl, hb3⟩
    exact ⟨rfl, hb3⟩
  intro K hK
  go_simp
  refine hK _ ?_
  clear hK K
  repeat (refine obls_is ?_ ?_; unfold doesAt; go_simp; (try go_bits); (first | (refine ⟨brefl _, ?_⟩; rfl) | rfl); intro K hK; go_simp; refine hK _ ?_; clear hK K)
  refine obls_nil (fun _ => ?_)
  clear a0 a1 a2 a3 b0 b1 b2 b3 c0 c1 c2 c3
  have HWn := Lib.hid (HW.out.later HG.out)
  have HAn := Lib.hid (HA.out.later HG.out)
  have HBn := Lib.hid (HB.out.later HG.out)
  have HCn := Lib.hid (HC.out.later HG.out)
  have FSn := Lib.hid (FS.out.later HG.out)
  have FFn := Lib.hid (FF.out.later HG.out)
  clear HW HA HB HC FS FF
  have HW := HWn
  have HA := HAn
  have HB := HBn
  have HC := HCn
  have FS := FSn
  have FF := FFn
  clear HWn HAn HBn HCn FSn FFn
  clear hc hf HG
  have a0 := HA.out.b.cell 0
  have a1 := HA.out.b.cell 1
  have a2 := HA.out.b.cell 2
  have a3 := HA.out.b.lt
  have b0 := HB.out.b.cell 0
  have b1 := HB.out.b.cell 1
  have b2 := HB.out.b.cell 2
  have b3 := HB.out.b.lt
  have c0 := HC.out.b.cell 0
  have c1 := HC.out.b.cell 1
  have c2 := HC.out.b.cell 2
  have c3 := HC.out.b.lt
  go_wp2_with fail
  refine (t_prf HC.out).mono ?_
  rintro e U16 ⟨G3, k3, rfl, hb, hsl⟩
  clear a0 a1 a2 a3 b0 b1 b2 b3 c0 c1 c2 c3
  have HWn := Lib.hid (HW.out.later hb)
  have HAn := Lib.hid (HA.out.later hb)
  have HBn := Lib.hid (HB.out.later hb)
  have HCn := Lib.hid (HC.out.later hb)
  have FSn := Lib.hid (FS.out.later hb)
  have FFn := Lib.hid (FF.out.later hb)
  clear HW HA HB HC FS FF
  have HW := HWn
  have HA := HAn
  have HB := HBn
  have HC := HCn
  have FS := FSn
  have FF := FFn
  clear HWn HAn HBn HCn FSn FFn
  have FP := Lib.hid hsl
  clear hb hsl
  have a0 := HA.out.b.cell 0
  have a1 := HA.out.b.cell 1
  have a2 := HA.out.b.cell 2
  have a3 := HA.out.b.lt
  have b0 := HB.out.b.cell 0
  have b1 := HB.out.b.cell 1
  have b2 := HB.out.b.cell 2
  have b3 := HB.out.b.lt
  have c0 := HC.out.b.cell 0
  have c1 := HC.out.b.cell 1
  have c2 := HC.out.b.cell 2
  have c3 := HC.out.b.lt
  go_wp2_with fail
  refine (t_worth HC.out x_w2).mono ?_
  rintro e U17 ⟨rfl, hb⟩
  clear a0 a1 a2 a3 b0 b1 b2 b3 c0 c1 c2 c3
  have HWn := Lib.hid (HW.out.later hb)
  have HAn := Lib.hid (HA.out.later hb)
  have HBn := Lib.hid (HB.out.later hb)
  have HCn := Lib.hid (HC.out.later hb)
  have FSn := Lib.hid (FS.out.later hb)
  have FFn := Lib.hid (FF.out.later hb)
  have FPn := Lib.hid (FP.out.later hb)
  clear HW HA HB HC FS FF FP
  have HW := HWn
  have HA := HAn
  have HB := HBn
  have HC := HCn
  have FS := FSn
  have FF := FFn
  have FP := FPn
  clear HWn HAn HBn HCn FSn FFn FPn
  clear hb
  have a0 := HA.out.b.cell 0
  have a1 := HA.out.b.cell 1
  have a2 := HA.out.b.cell 2
  have a3 := HA.out.b.lt
  have b0 := HB.out.b.cell 0
  have b1 := HB.out.b.cell 1
  have b2 := HB.out.b.cell 2
  have b3 := HB.out.b.lt
  have c0 := HC.out.b.cell 0
  have c1 := HC.out.b.cell 1
  have c2 := HC.out.b.cell 2
  have c3 := HC.out.b.lt
  go_wp2_with fail
  refine (t_worth HC.out x_w3).mono ?_
  rintro e U18 ⟨rfl, hb⟩
  clear a0 a1 a2 a3 b0 b1 b2 b3 c0 c1 c2 c3
  have HWn := Lib.hid (HW.out.later hb)
  have HAn := Lib.hid (HA.out.later hb)
  have HBn := Lib.hid (HB.out.later hb)
  have HCn := Lib.hid (HC.out.later hb)
  have FSn := Lib.hid (FS.out.later hb)
  have FFn := Lib.hid (FF.out.later hb)
  have FPn := Lib.hid (FP.out.later hb)
  clear HW HA HB HC FS FF FP
  have HW := HWn
  have HA := HAn
  have HB := HBn
  have HC := HCn
  have FS := FSn
  have FF := FFn
  have FP := FPn
  clear HWn HAn HBn HCn FSn FFn FPn
  clear hb
  have a0 := HA.out.b.cell 0
  have a1 := HA.out.b.cell 1
  have a2 := HA.out.b.cell 2
  have a3 := HA.out.b.lt
  have b0 := HB.out.b.cell 0
  have b1 := HB.out.b.cell 1
  have b2 := HB.out.b.cell 2
  have b3 := HB.out.b.lt
  have c0 := HC.out.b.cell 0
  have c1 := HC.out.b.cell 1
  have c2 := HC.out.b.cell 2
  have c3 := HC.out.b.lt
  go_wp2_with fail
  refine dag 11 (by kernel_rfl) (by kernel_rfl) (.is ?_ :: .like (IsInts 3 [0, 0, 2]) :: .like (IsInts 3 [0, 0, 2]) :: .is (.tuple #[.int .i64 46, .int .i64 53, .int .i64 0]) :: .is ?_ :: .is ?_ :: .is ?_ :: .is ?_ :: .is ?_ :: .is ?_ :: .is ?_ :: []) rfl ?st19 ?ob19
  case st19 => repeat (first | exact stab_nil | refine stab_is ?_ | refine stab_like IsInts.stab ?_)
  case ob19 =>
  intro env19 V19 hG
  obtain ⟨hc, hf⟩ := bcell hG
  have HG := Lib.hid hG
  clear hG
  iterate 1 (refine obls_is ?_ ?_; unfold doesAt; go_simp; (try go_bits); (first | (refine ⟨brefl _, ?_⟩; rfl) | rfl); intro K hK; go_simp; refine hK _ ?_; clear hK K)
  refine obls_like (fun _ => ?_) ?_
  · unfold doesAt
    go_simp
    exact ⟨balloc (brefl _) _, _, _, rfl, lit_sl (xs := [0, 0, 2]) (Blk.new _ _ _) (by simp) rfl (by omega)⟩
  intro K hK
  go_simp
  refine hK _ ?_
  clear hK K
  refine obls_like (fun hl => ?_) ?_
  · obtain ⟨G, c, hE, hsl⟩ : IsInts 3 [0, 0, 2] (env19 1) V19 := hl ⟨1, .data⟩ (by simp) rfl
    have Hsl := Lib.hid hsl
    clear hsl
    unfold doesAt
    go_simp
    refine (longs_any G 3 c V19).mono ?_
    rintro e w3 ⟨rfl, hb3⟩
    exact ⟨_, rfl, hb3, G, c, rfl, Hsl.out.later hb3⟩
  intro K hK
  go_simp
  refine hK _ ?_
  clear hK K
  refine obls_isL (fun hl => ?_) ?_
  · obtain ⟨G, c, hE, hsl⟩ : IsInts 3 [0, 0, 2] (env19 2) V19 := hl ⟨2, .data⟩ (by simp) rfl
    have Hsl := Lib.hid hsl
    clear hsl
    unfold doesAt
    go_simp
    refine (t_span (HC.out.later HG.out) x_q1 Hsl.out).mono ?_
    rintro e w3 ⟨rfl, hb3⟩
    exact ⟨rfl, hb3⟩
  intro K hK
  go_simp
  refine hK _ ?_
  clear hK K
  repeat (refine obls_is ?_ ?_; unfold doesAt; go_simp; (try go_bits); (first | (refine ⟨brefl _, ?_⟩; rfl) | rfl); intro K hK; go_simp; refine hK _ ?_; clear hK K)
  refine obls_nil (fun _ => ?_)
  clear a0 a1 a2 a3 b0 b1 b2 b3 c0 c1 c2 c3
  have HWn := Lib.hid (HW.out.later HG.out)
  have HAn := Lib.hid (HA.out.later HG.out)
  have HBn := Lib.hid (HB.out.later HG.out)
  have HCn := Lib.hid (HC.out.later HG.out)
  have FSn := Lib.hid (FS.out.later HG.out)
  have FFn := Lib.hid (FF.out.later HG.out)
  have FPn := Lib.hid (FP.out.later HG.out)
  clear HW HA HB HC FS FF FP
  have HW := HWn
  have HA := HAn
  have HB := HBn
  have HC := HCn
  have FS := FSn
  have FF := FFn
  have FP := FPn
  clear HWn HAn HBn HCn FSn FFn FPn
  clear hc hf HG
  have a0 := HA.out.b.cell 0
  have a1 := HA.out.b.cell 1
  have a2 := HA.out.b.cell 2
  have a3 := HA.out.b.lt
  have b0 := HB.out.b.cell 0
  have b1 := HB.out.b.cell 1
  have b2 := HB.out.b.cell 2
  have b3 := HB.out.b.lt
  have c0 := HC.out.b.cell 0
  have c1 := HC.out.b.cell 1
  have c2 := HC.out.b.cell 2
  have c3 := HC.out.b.lt
  go_wp2_with fail
  refine dag 11 (by kernel_rfl) (by kernel_rfl) (.is ?_ :: .like (IsInts 3 [0, 0, 48]) :: .like (IsInts 3 [0, 0, 48]) :: .is (.tuple #[.int .i64 0, .int .i64 0, .int .i64 3]) :: .is ?_ :: .is ?_ :: .is ?_ :: .is ?_ :: .is ?_ :: .is ?_ :: .is ?_ :: []) rfl ?st20 ?ob20
  case st20 => repeat (first | exact stab_nil | refine stab_is ?_ | refine stab_like IsInts.stab ?_)
  case ob20 =>
  intro env20 V20 hG
  obtain ⟨hc, hf⟩ := bcell hG
  have HG := Lib.hid hG
  clear hG
  iterate 1 (refine obls_is ?_ ?_; unfold doesAt; go_simp; (try go_bits); (first | (refine ⟨brefl _, ?_⟩; rfl) | rfl); intro K hK; go_simp; refine hK _ ?_; clear hK K)
  refine obls_like (fun _ => ?_) ?_
  · unfold doesAt
    go_simp
    exact ⟨balloc (brefl _) _, _, _, rfl, lit_sl (xs := [0, 0, 48]) (Blk.new _ _ _) (by simp) rfl (by omega)⟩
  intro K hK
  go_simp
  refine hK _ ?_
  clear hK K
  refine obls_like (fun hl => ?_) ?_
  · obtain ⟨G, c, hE, hsl⟩ : IsInts 3 [0, 0, 48] (env20 1) V20 := hl ⟨1, .data⟩ (by simp) rfl
    have Hsl := Lib.hid hsl
    clear hsl
    unfold doesAt
    go_simp
    refine (longs_any G 3 c V20).mono ?_
    rintro e w3 ⟨rfl, hb3⟩
    exact ⟨_, rfl, hb3, G, c, rfl, Hsl.out.later hb3⟩
  intro K hK
  go_simp
  refine hK _ ?_
  clear hK K
  refine obls_isL (fun hl => ?_) ?_
  · obtain ⟨G, c, hE, hsl⟩ : IsInts 3 [0, 0, 48] (env20 2) V20 := hl ⟨2, .data⟩ (by simp) rfl
    have Hsl := Lib.hid hsl
    clear hsl
    unfold doesAt
    go_simp
    refine (t_span (HC.out.later HG.out) x_q2 Hsl.out).mono ?_
    rintro e w3 ⟨rfl, hb3⟩
    exact ⟨rfl, hb3⟩
  intro K hK
  go_simp
  refine hK _ ?_
  clear hK K
  repeat (refine obls_is ?_ ?_; unfold doesAt; go_simp; (try go_bits); (first | (refine ⟨brefl _, ?_⟩; rfl) | rfl); intro K hK; go_simp; refine hK _ ?_; clear hK K)
  refine obls_nil (fun _ => ?_)
  clear a0 a1 a2 a3 b0 b1 b2 b3 c0 c1 c2 c3
  have HWn := Lib.hid (HW.out.later HG.out)
  have HAn := Lib.hid (HA.out.later HG.out)
  have HBn := Lib.hid (HB.out.later HG.out)
  have HCn := Lib.hid (HC.out.later HG.out)
  have FSn := Lib.hid (FS.out.later HG.out)
  have FFn := Lib.hid (FF.out.later HG.out)
  have FPn := Lib.hid (FP.out.later HG.out)
  clear HW HA HB HC FS FF FP
  have HW := HWn
  have HA := HAn
  have HB := HBn
  have HC := HCn
  have FS := FSn
  have FF := FFn
  have FP := FPn
  clear HWn HAn HBn HCn FSn FFn FPn
  clear hc hf HG
  have a0 := HA.out.b.cell 0
  have a1 := HA.out.b.cell 1
  have a2 := HA.out.b.cell 2
  have a3 := HA.out.b.lt
  have b0 := HB.out.b.cell 0
  have b1 := HB.out.b.cell 1
  have b2 := HB.out.b.cell 2
  have b3 := HB.out.b.lt
  have c0 := HC.out.b.cell 0
  have c1 := HC.out.b.cell 1
  have c2 := HC.out.b.cell 2
  have c3 := HC.out.b.lt
  go_wp2_with fail
  refine (t_ref HB.out rfl (x_fine _ (.inr (.inl rfl))) x_r1).mono ?_
  rintro e U21 ⟨G4, n4, k4, rfl, hb, hsl⟩
  clear a0 a1 a2 a3 b0 b1 b2 b3 c0 c1 c2 c3
  have HWn := Lib.hid (HW.out.later hb)
  have HAn := Lib.hid (HA.out.later hb)
  have HBn := Lib.hid (HB.out.later hb)
  have HCn := Lib.hid (HC.out.later hb)
  have FSn := Lib.hid (FS.out.later hb)
  have FFn := Lib.hid (FF.out.later hb)
  have FPn := Lib.hid (FP.out.later hb)
  clear HW HA HB HC FS FF FP
  have HW := HWn
  have HA := HAn
  have HB := HBn
  have HC := HCn
  have FS := FSn
  have FF := FFn
  have FP := FPn
  clear HWn HAn HBn HCn FSn FFn FPn
  have FR := Lib.hid hsl
  clear hb hsl
  have a0 := HA.out.b.cell 0
  have a1 := HA.out.b.cell 1
  have a2 := HA.out.b.cell 2
  have a3 := HA.out.b.lt
  have b0 := HB.out.b.cell 0
  have b1 := HB.out.b.cell 1
  have b2 := HB.out.b.cell 2
  have b3 := HB.out.b.lt
  have c0 := HC.out.b.cell 0
  have c1 := HC.out.b.cell 1
  have c2 := HC.out.b.cell 2
  have c3 := HC.out.b.lt
  go_wp2_with fail
  refine (t_rfill HA.out FE.out FF.out rfl).mono ?_
  rintro e U22 ⟨rfl, hb⟩
  clear a0 a1 a2 a3 b0 b1 b2 b3 c0 c1 c2 c3
  have HWn := Lib.hid (HW.out.later hb)
  have HAn := Lib.hid (HA.out.later hb)
  have HBn := Lib.hid (HB.out.later hb)
  have HCn := Lib.hid (HC.out.later hb)
  have FSn := Lib.hid (FS.out.later hb)
  have FFn := Lib.hid (FF.out.later hb)
  have FPn := Lib.hid (FP.out.later hb)
  have FRn := Lib.hid (FR.out.later hb)
  clear HW HA HB HC FS FF FP FR
  have HW := HWn
  have HA := HAn
  have HB := HBn
  have HC := HCn
  have FS := FSn
  have FF := FFn
  have FP := FPn
  have FR := FRn
  clear HWn HAn HBn HCn FSn FFn FPn FRn
  clear hb
  have a0 := HA.out.b.cell 0
  have a1 := HA.out.b.cell 1
  have a2 := HA.out.b.cell 2
  have a3 := HA.out.b.lt
  have b0 := HB.out.b.cell 0
  have b1 := HB.out.b.cell 1
  have b2 := HB.out.b.cell 2
  have b3 := HB.out.b.lt
  have c0 := HC.out.b.cell 0
  have c1 := HC.out.b.cell 1
  have c2 := HC.out.b.cell 2
  have c3 := HC.out.b.lt
  go_wp2_with fail
  refine (t_rproof HC.out x_p1 FP.out).mono ?_
  rintro e U23 ⟨rfl, hb⟩
  clear a0 a1 a2 a3 b0 b1 b2 b3 c0 c1 c2 c3
  have HWn := Lib.hid (HW.out.later hb)
  have HAn := Lib.hid (HA.out.later hb)
  have HBn := Lib.hid (HB.out.later hb)
  have HCn := Lib.hid (HC.out.later hb)
  have FSn := Lib.hid (FS.out.later hb)
  have FFn := Lib.hid (FF.out.later hb)
  have FPn := Lib.hid (FP.out.later hb)
  have FRn := Lib.hid (FR.out.later hb)
  clear HW HA HB HC FS FF FP FR
  have HW := HWn
  have HA := HAn
  have HB := HBn
  have HC := HCn
  have FS := FSn
  have FF := FFn
  have FP := FPn
  have FR := FRn
  clear HWn HAn HBn HCn FSn FFn FPn FRn
  clear hb
  have a0 := HA.out.b.cell 0
  have a1 := HA.out.b.cell 1
  have a2 := HA.out.b.cell 2
  have a3 := HA.out.b.lt
  have b0 := HB.out.b.cell 0
  have b1 := HB.out.b.cell 1
  have b2 := HB.out.b.cell 2
  have b3 := HB.out.b.lt
  have c0 := HC.out.b.cell 0
  have c1 := HC.out.b.cell 1
  have c2 := HC.out.b.cell 2
  have c3 := HC.out.b.lt
  go_wp2_with fail
  refine (longs_any _ 3 3 _).mono ?_
  rintro e U24 ⟨rfl, hb0⟩
  obtain ⟨hsl, hb⟩ := lit3 [3, 4, 3] 3 hb0 rfl (by omega)
  clear a0 a1 a2 a3 b0 b1 b2 b3 c0 c1 c2 c3
  have HWn := Lib.hid (HW.out.later hb)
  have HAn := Lib.hid (HA.out.later hb)
  have HBn := Lib.hid (HB.out.later hb)
  have HCn := Lib.hid (HC.out.later hb)
  have FSn := Lib.hid (FS.out.later hb)
  have FFn := Lib.hid (FF.out.later hb)
  have FPn := Lib.hid (FP.out.later hb)
  have FRn := Lib.hid (FR.out.later hb)
  clear HW HA HB HC FS FF FP FR
  have HW := HWn
  have HA := HAn
  have HB := HBn
  have HC := HCn
  have FS := FSn
  have FF := FFn
  have FP := FPn
  have FR := FRn
  clear HWn HAn HBn HCn FSn FFn FPn FRn
  have HX := Lib.hid hsl
  clear hb hb0 hsl
  go_wp2_with fail
  refine (eqL (by rw [← x_sp.1]; exact FS.out) HX.out).mono ?_
  clear HX
  rintro e U24b ⟨rfl, hb⟩
  have HWn := Lib.hid (HW.out.later hb)
  have HAn := Lib.hid (HA.out.later hb)
  have HBn := Lib.hid (HB.out.later hb)
  have HCn := Lib.hid (HC.out.later hb)
  have FSn := Lib.hid (FS.out.later hb)
  have FFn := Lib.hid (FF.out.later hb)
  have FPn := Lib.hid (FP.out.later hb)
  have FRn := Lib.hid (FR.out.later hb)
  clear HW HA HB HC FS FF FP FR
  have HW := HWn
  have HA := HAn
  have HB := HBn
  have HC := HCn
  have FS := FSn
  have FF := FFn
  have FP := FPn
  have FR := FRn
  clear HWn HAn HBn HCn FSn FFn FPn FRn
  clear hb
  have a0 := HA.out.b.cell 0
  have a1 := HA.out.b.cell 1
  have a2 := HA.out.b.cell 2
  have a3 := HA.out.b.lt
  have b0 := HB.out.b.cell 0
  have b1 := HB.out.b.cell 1
  have b2 := HB.out.b.cell 2
  have b3 := HB.out.b.lt
  have c0 := HC.out.b.cell 0
  have c1 := HC.out.b.cell 1
  have c2 := HC.out.b.cell 2
  have c3 := HC.out.b.lt
  go_wp2_with fail
  refine (of__any _ 1 1 _).mono ?_
  rintro e U25 ⟨rfl, hb0⟩
  obtain ⟨hsl, hb⟩ := lit3 [0] 1 hb0 rfl (by omega)
  clear a0 a1 a2 a3 b0 b1 b2 b3 c0 c1 c2 c3
  have HWn := Lib.hid (HW.out.later hb)
  have HAn := Lib.hid (HA.out.later hb)
  have HBn := Lib.hid (HB.out.later hb)
  have HCn := Lib.hid (HC.out.later hb)
  have FSn := Lib.hid (FS.out.later hb)
  have FFn := Lib.hid (FF.out.later hb)
  have FPn := Lib.hid (FP.out.later hb)
  have FRn := Lib.hid (FR.out.later hb)
  clear HW HA HB HC FS FF FP FR
  have HW := HWn
  have HA := HAn
  have HB := HBn
  have HC := HCn
  have FS := FSn
  have FF := FFn
  have FP := FPn
  have FR := FRn
  clear HWn HAn HBn HCn FSn FFn FPn FRn
  have HX := Lib.hid hsl
  clear hb hb0 hsl
  go_wp2_with fail
  refine (eqI FR.out HX.out).mono ?_
  clear HX
  rintro e U25b ⟨rfl, hb⟩
  have HWn := Lib.hid (HW.out.later hb)
  have HAn := Lib.hid (HA.out.later hb)
  have HBn := Lib.hid (HB.out.later hb)
  have HCn := Lib.hid (HC.out.later hb)
  have FSn := Lib.hid (FS.out.later hb)
  have FFn := Lib.hid (FF.out.later hb)
  have FPn := Lib.hid (FP.out.later hb)
  have FRn := Lib.hid (FR.out.later hb)
  clear HW HA HB HC FS FF FP FR
  have HW := HWn
  have HA := HAn
  have HB := HBn
  have HC := HCn
  have FS := FSn
  have FF := FFn
  have FP := FPn
  have FR := FRn
  clear HWn HAn HBn HCn FSn FFn FPn FRn
  clear hb
  have a0 := HA.out.b.cell 0
  have a1 := HA.out.b.cell 1
  have a2 := HA.out.b.cell 2
  have a3 := HA.out.b.lt
  have b0 := HB.out.b.cell 0
  have b1 := HB.out.b.cell 1
  have b2 := HB.out.b.cell 2
  have b3 := HB.out.b.lt
  have c0 := HC.out.b.cell 0
  have c1 := HC.out.b.cell 1
  have c2 := HC.out.b.cell 2
  have c3 := HC.out.b.lt
  go_wp2_with fail
  go_ret
  exact ⟨rfl, HW.out.b⟩
end Go.Proofs.Ytmfiggbobaihcaa
