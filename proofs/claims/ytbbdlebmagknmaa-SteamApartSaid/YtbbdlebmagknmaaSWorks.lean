/- Works: the examples of the chapter hold. -/
import Derived.Test.YtbbdlebmagknmaaSEx
import Derived.Test.YtbbdlebmagknmaaSPlainG
import Derived.Test.YtbbdlebmagknmaaSApi4
import Derived.Test.YtbbdlebmagknmaaSRefG
namespace Go.Proofs.Ytbbdlebmagknmaa
open Go.RowKit Go.Shelf

/-- The examples' yards stand. -/
structure WK (w W : World) (B1 B2 : Nat) (AA AB : Option Addr) (ca cb : Nat) : Prop where
  bel : Below w.heap.size w W
  b1 : Blk W B1 24 #[.int .i64 2, .slice AA 5 ca]
  b2 : Blk W B2 24 #[.int .i64 1, .slice AB 0 cb]
  s1 : Sl 2 encR W W.heap.size AA 5 ca rsA
  s2 : Sl 2 encR W W.heap.size AB 0 cb []
theorem WK.later {w W W' : World} {B1 B2 : Nat} {AA AB : Option Addr} {ca cb : Nat} (h : WK w W B1 B2 AA AB ca cb) (hb : Below W.heap.size W W') : WK w W' B1 B2 AA AB ca cb := ⟨Below.later h.bel hb, h.b1.later hb, h.b2.later hb, h.s1.later hb, h.s2.later hb⟩
section
variable {w W : World} {B1 B2 : Nat} {AA AB : Option Addr} {ca cb : Nat}
theorem rs_ok : RsOk rsA := (yard_ok x_yard).2
theorem t_ch (h : WK w W B1 B2 AA AB ca cb) {G : Option Addr} {n c : Nat} {xs : List Int} {v e : Int} (hs : Sl 1 encI W W.heap.size G n c xs) (hx : hoursE 2 rsA xs = e ∧ hoursV 2 rsA xs = v) :
    Calls Try.prog 19 #[.agg #[.int .i64 2, .slice AA 5 ca], .slice G n c] W fun r w' => r = .returned (.tuple #[.int .i64 v, .int .i64 e]) ∧ Below W.heap.size W w' := by
  have := checkHours_any 2 AA 5 ca rsA G n c xs W h.s1 hs
  rw [hx.1, hx.2] at this
  exact this
theorem t_rch (h : WK w W B1 B2 AA AB ca cb) {G : Option Addr} {n c : Nat} {xs : List Int} {v e : Int} (hs : Sl 1 encI W W.heap.size G n c xs) (hx : hoursE 2 rsA xs = e ∧ hoursV 2 rsA xs = v) :
    Calls Try.prog 20 #[.agg #[.int .i64 2, .slice AA 5 ca], .slice G n c] W fun r w' => r = .returned (.tuple #[.int .i64 v, .int .i64 e]) ∧ Below W.heap.size W w' := by
  have := refHours_any 2 AA 5 ca rsA G n c xs W h.s1 hs
  rw [hx.1, hx.2] at this
  exact this
theorem t_cp (h : WK w W B1 B2 AA AB ca cb) {G : Option Addr} {n c : Nat} {xs : List Rg} {v e : Int} (hs : Sl 2 encR W W.heap.size G n c xs) (hx : proofE 2 rsA xs = e ∧ proofV 2 rsA xs = v) :
    Calls Try.prog 27 #[.agg #[.int .i64 2, .slice AA 5 ca], .slice G n c] W fun r w' => r = .returned (.tuple #[.int .i64 v, .int .i64 e]) ∧ Below W.heap.size W w' := by
  have := checkProof_any 2 AA 5 ca rsA G n c xs W h.s1 hs
  rw [hx.1, hx.2] at this
  exact this
theorem t_rcp (h : WK w W B1 B2 AA AB ca cb) {G : Option Addr} {n c : Nat} {xs : List Rg} {v e : Int} (hs : Sl 2 encR W W.heap.size G n c xs) (hx : proofE 2 rsA xs = e ∧ proofV 2 rsA xs = v) :
    Calls Try.prog 28 #[.agg #[.int .i64 2, .slice AA 5 ca], .slice G n c] W fun r w' => r = .returned (.tuple #[.int .i64 v, .int .i64 e]) ∧ Below W.heap.size W w' := by
  have := refProof_any 2 AA 5 ca rsA G n c xs W h.s1 hs
  rw [hx.1, hx.2] at this
  exact this
theorem t_nd (h : WK w W B1 B2 AA AB ca cb) {wd : Rg} {v e : Int} (hx : needE 2 rsA wd = e ∧ needV 2 rsA wd = v) :
    Calls Try.prog 21 #[.agg #[.int .i64 2, .slice AA 5 ca], .agg #[.int .i64 wd.lo, .int .i64 wd.hi]] W fun r w' => r = .returned (.tuple #[.int .i64 v, .int .i64 e]) ∧ Below W.heap.size W w' := by
  have := needC_any 2 AA 5 ca rsA wd W h.s1
  rw [hx.1, hx.2] at this
  exact this
theorem t_few (h : WK w W B1 B2 AA AB ca cb) : Calls Try.prog 25 #[.agg #[.int .i64 2, .slice AA 5 ca]] W fun r w' => r = .returned (.tuple #[.int .i64 3, .int .i64 0]) ∧ Below W.heap.size W w' := by
  have := fewest_any 2 AA 5 ca rsA W h.s1
  rw [x_few, x_yard] at this
  exact this
theorem t_few0 (h : WK w W B1 B2 AA AB ca cb) : Calls Try.prog 25 #[.agg #[.int .i64 1, .slice AB 0 cb]] W fun r w' => r = .returned (.tuple #[.int .i64 0, .int .i64 0]) ∧ Below W.heap.size W w' := by
  have := fewest_any 1 AB 0 cb [] W h.s2
  rw [x_few0, x_yard0] at this
  exact this
theorem t_hours (h : WK w W B1 B2 AA AB ca cb) : Calls Try.prog 29 #[.agg #[.int .i64 2, .slice AA 5 ca]] W fun r w' => ∃ g hs, r = .returned (.tuple #[.slice (some ⟨g, 0, none⟩) 5 5, .int .i64 0]) ∧ Below W.heap.size W w' ∧ Sl 1 encI w' w'.heap.size (some ⟨g, 0, none⟩) 5 5 hs ∧ hoursE 2 rsA hs = 0 ∧ hoursV 2 rsA hs = 3 := by
  refine (hours_ok 2 AA ca rsA W h.s1 x_yard).mono ?_
  rintro e w' ⟨g, l, ts, H, rfl, hb, hok, hsl⟩
  have h1 := fill_hours hok rs_ok ⟨by omega, by omega⟩
  rw [x_la] at h1
  exact ⟨g, _, rfl, hb, hsl, h1.1, h1.2⟩
theorem t_proof (h : WK w W B1 B2 AA AB ca cb) : Calls Try.prog 30 #[.agg #[.int .i64 2, .slice AA 5 ca]] W fun r w' => ∃ g ws, r = .returned (.tuple #[.slice (some ⟨g, 0, none⟩) ws.length ws.length, .int .i64 0]) ∧ Below W.heap.size W w' ∧ Sl 2 encR w' w'.heap.size (some ⟨g, 0, none⟩) ws.length ws.length ws ∧ proofE 2 rsA ws = 0 ∧ proofV 2 rsA ws = 3 := by
  refine (proofC_ok 2 AA ca rsA W h.s1 x_yard).mono ?_
  rintro e w' ⟨g, ws, rfl, hb, hsl, hch⟩
  have h1 := chain_proof rs_ok ⟨by omega, by omega⟩ hch
  rw [x_la] at h1
  exact ⟨g, ws, rfl, hb, hsl, h1.1.2, h1.2⟩
theorem t_early (h : WK w W B1 B2 AA AB ca cb) : Calls Try.prog 31 #[.agg #[.int .i64 2, .slice AA 5 ca]] W fun r w' => ∃ G c, r = .returned (.tuple #[.slice G 3 c, .int .i64 0]) ∧ Below W.heap.size W w' ∧ Sl 1 encI w' w'.heap.size G 3 c [2, 4, 7] := by
  have h0 := early_any 2 AA 5 ca rsA W h.s1
  rw [x_yard, x_e] at h0
  refine h0.mono ?_
  rintro e w' ⟨v, rfl, hb, hown⟩
  obtain ⟨G, c, rfl, hsl⟩ := own_slI hown rfl
  exact ⟨G, c, rfl, hb, hsl⟩
theorem t_late (h : WK w W B1 B2 AA AB ca cb) : Calls Try.prog 33 #[.agg #[.int .i64 2, .slice AA 5 ca]] W fun r w' => ∃ G c, r = .returned (.tuple #[.slice G 3 c, .int .i64 0]) ∧ Below W.heap.size W w' ∧ Sl 1 encI w' w'.heap.size G 3 c [4, 7, 9] := by
  have h0 := late_any 2 AA 5 ca rsA W h.s1
  rw [x_yard, x_l] at h0
  refine h0.mono ?_
  rintro e w' ⟨v, rfl, hb, hown, _⟩
  obtain ⟨G, c, rfl, hsl⟩ := own_slI hown rfl
  exact ⟨G, c, rfl, hb, hsl⟩
theorem t_keep (h : WK w W B1 B2 AA AB ca cb) : Calls Try.prog 36 #[.agg #[.int .i64 2, .slice AA 5 ca], .int .i64 2] W fun r w' => ∃ G c, r = .returned (.tuple #[.slice G 4 c, .int .i64 0]) ∧ Below W.heap.size W w' ∧ Sl 1 encI w' w'.heap.size G 4 c [0, 1, 2, 3] := by
  have h0 := keep_any 2 AA 5 ca rsA 2 W h.s1
  rw [x_k1.1, x_k1.2] at h0
  refine h0.mono ?_
  rintro e w' ⟨v, rfl, hb, hown⟩
  obtain ⟨G, c, rfl, hsl⟩ := own_slI (ts := [0, 1, 2, 3]) (n := 4) hown rfl
  exact ⟨G, c, rfl, hb, hsl⟩
theorem t_keep2 (h : WK w W B1 B2 AA AB ca cb) : Calls Try.prog 36 #[.agg #[.int .i64 2, .slice AA 5 ca], .int .i64 11] W fun r w' => ∃ v, r = .returned (.tuple #[v, .int .i64 3]) ∧ Below W.heap.size W w' := by
  have h0 := keep_any 2 AA 5 ca rsA 11 W h.s1
  rw [x_k2.1, x_k2.2] at h0
  refine h0.mono ?_
  rintro e w' ⟨v, rfl, hb, _⟩
  exact ⟨v, rfl, hb⟩
end
def IsRgs (xs : List Rg) (v : Value) (W : World) : Prop := ∃ G n c, v = .slice G n c ∧ Sl 2 encR W W.heap.size G n c xs
theorem IsRgs.stab {xs : List Rg} : ∀ v W W', Gr W W' → IsRgs xs v W → IsRgs xs v W' := fun _ _ _ hG ⟨G, n, c, h1, h2⟩ => ⟨G, n, c, h1, h2.later hG⟩
theorem rgs_sl {W : World} {B b : Nat} {t : TypeId} {x y : Rg} (h : Blk W b t #[.int .i64 x.lo, .int .i64 x.hi, .int .i64 y.lo, .int .i64 y.hi]) (hb : b < B) : Sl 2 encR W B (some ⟨b, 0, none⟩) 2 2 [x, y] :=
  ⟨rfl, Nat.le_refl _, by omega, fun _ => ⟨b, 0, rfl, hb, fun i z hz j u hu => by
    rw [h.cell]
    match i, hz with
    | 0, rfl => match j, hu with
      | 0, rfl => rfl
      | 1, rfl => rfl
    | 1, rfl => match j, hu with
      | 0, rfl => rfl
      | 1, rfl => rfl⟩⟩
theorem eqL {W : World} {A B : Option Addr} {n m c d : Nat} {xs : List Int} (h1 : Sl 1 encI W W.heap.size A n c xs) (h2 : Sl 1 encI W W.heap.size B m d xs) : Calls Try.prog 35 #[.slice A n c, .slice B m d] W fun e w' => e = .returned (.bool true) ∧ Below W.heap.size W w' := by
  have := longsEq_any A n c xs B m d xs W h1 h2
  rw [decide_eq_true rfl] at this
  exact this
theorem eqI {W : World} {A B : Option Addr} {n m c d : Nat} {xs : List Int} (h1 : Sl 1 encI W W.heap.size A n c xs) (h2 : Sl 1 encI W W.heap.size B m d xs) : Calls Try.prog 38 #[.slice A n c, .slice B m d] W fun e w' => e = .returned (.bool true) ∧ Below W.heap.size W w' := by
  have := intsEq_any A n c xs B m d xs W h1 h2
  rw [decide_eq_true rfl] at this
  exact this
theorem lit3 {U w : World} {t : TypeId} (xs : List Int) (n : Nat) (hb : Below (U.alloc (.cells (xs.map (Value.int .i64)).toArray t)).heap.size (U.alloc (.cells (xs.map (Value.int .i64)).toArray t)) w) (hn : xs.length = n) (h2 : n ≤ 1000) : Sl 1 encI w w.heap.size (some ⟨U.heap.size, 0, none⟩) n n xs ∧ Below U.heap.size U w :=
  ⟨(lit_sl (Blk.new U t _) (by simp) hn h2).later hb, Below.later (balloc (brefl _) _) hb⟩
set_option maxRecDepth 100000 in
set_option maxHeartbeats 16000000 in
theorem works_any (w : World) : Calls Try.prog 18 #[] w fun e w' => e = .returned (.bool true) ∧ Below w.heap.size w w' := by
  go_enter Try.func18, Try.ntmps18
  go_wp2_with fail
  refine (five_any _).mono ?_
  rintro e w1 ⟨AA, ca, rfl, hb1, hs1⟩
  have HB1 := Lib.hid hb1
  have HS1 := Lib.hid hs1
  clear hb1 hs1
  go_wp2_with fail
  refine (none_any _).mono ?_
  rintro e w2 ⟨AB, cb, rfl, hb2, hs2⟩
  have hbl := Blk.new (w2.alloc (.cells #[.int .i64 2, .slice AA 5 ca] 24)) 24 #[.int .i64 1, .slice AB 0 cb]
  rw [World.size_alloc] at hbl
  have HK := Lib.hid (show WK w ((w2.alloc (.cells #[.int .i64 2, .slice AA 5 ca] 24)).alloc (.cells #[.int .i64 1, .slice AB 0 cb] 24)) w2.heap.size (w2.heap.size + 1) AA AB ca cb from ⟨balloc (balloc (Below.later HB1.out hb2) _) _, (Blk.new w2 _ _).alloc _, hbl, (HS1.out.later hb2).later (balloc (balloc (brefl w2) _) _), hs2.later (balloc (balloc (brefl w2) _) _)⟩)
  clear hb2 hs2 hbl HB1 HS1
  go_wp2_with fail
  generalize hW0 : (w2.alloc (.cells #[.int .i64 2, .slice AA 5 ca] 24)).alloc (.cells #[.int .i64 1, .slice AB 0 cb] 24) = W0 at *
  obtain ⟨B1, hB1⟩ : ∃ B1, w2.heap.size = B1 := ⟨_, rfl⟩
  rw [hB1] at HK ⊢
  obtain ⟨B2, hB2⟩ : ∃ B2, B1 + 1 = B2 := ⟨_, rfl⟩
  rw [hB2] at HK ⊢
  clear hW0 hB1 hB2
  clear w2 w1
  have c0 := HK.out.b1.cell 0
  have c1 := HK.out.b1.cell 1
  have c2 := HK.out.b1.lt
  have d0 := HK.out.b2.cell 0
  have d1 := HK.out.b2.cell 1
  have d2 := HK.out.b2.lt
  refine dag 9 (by kernel_rfl) (by kernel_rfl) (.is ?_ :: .like (IsInts 5 [2, 4, 4, 7, 7]) :: .like (IsInts 5 [2, 4, 4, 7, 7]) :: .is (.tuple #[.int .i64 3, .int .i64 0]) :: .is ?_ :: .is ?_ :: .is ?_ :: .is ?_ :: .is ?_ :: []) rfl ?st1 ?ob1
  case st1 => repeat (first | exact stab_nil | refine stab_is ?_ | refine stab_like IsInts.stab ?_)
  case ob1 =>
  intro env1 V1 hG
  obtain ⟨hc, hf⟩ := bcell hG
  have HG := Lib.hid hG
  clear hG
  iterate 1 (refine obls_is ?_ ?_; unfold doesAt; go_simp; (try go_bits); (first | (refine ⟨brefl _, ?_⟩; rfl) | rfl); intro K hK; go_simp; refine hK _ ?_; clear hK K)
  refine obls_like (fun _ => ?_) ?_
  · unfold doesAt
    go_simp
    exact ⟨balloc (brefl _) _, _, _, rfl, lit_sl (xs := [2, 4, 4, 7, 7]) (Blk.new _ _ _) (by simp) rfl (by omega)⟩
  intro K hK
  go_simp
  refine hK _ ?_
  clear hK K
  refine obls_like (fun hl => ?_) ?_
  · obtain ⟨G, c, hE, hsl⟩ : IsInts 5 [2, 4, 4, 7, 7] (env1 1) V1 := hl ⟨1, .data⟩ (by simp) rfl
    have Hsl := Lib.hid hsl
    clear hsl
    unfold doesAt
    go_simp
    refine (longs_any G 5 c V1).mono ?_
    rintro e w3 ⟨rfl, hb3⟩
    exact ⟨_, rfl, hb3, G, c, rfl, Hsl.out.later hb3⟩
  intro K hK
  go_simp
  refine hK _ ?_
  clear hK K
  refine obls_isL (fun hl => ?_) ?_
  · obtain ⟨G, c, hE, hsl⟩ : IsInts 5 [2, 4, 4, 7, 7] (env1 2) V1 := hl ⟨2, .data⟩ (by simp) rfl
    have Hsl := Lib.hid hsl
    clear hsl
    unfold doesAt
    go_simp
    refine (t_ch (HK.out.later HG.out) Hsl.out x_h1).mono ?_
    rintro e w3 ⟨rfl, hb3⟩
    exact ⟨rfl, hb3⟩
  intro K hK
  go_simp
  refine hK _ ?_
  clear hK K
  repeat (refine obls_is ?_ ?_; unfold doesAt; go_simp; (try go_bits); (first | (refine ⟨brefl _, ?_⟩; rfl) | rfl); intro K hK; go_simp; refine hK _ ?_; clear hK K)
  refine obls_nil (fun _ => ?_)
  clear c0 c1 c2 d0 d1 d2
  have HKn := Lib.hid (HK.out.later HG.out)
  clear HK 
  have HK := HKn
  clear HKn 
  clear hc hf HG
  have c0 := HK.out.b1.cell 0
  have c1 := HK.out.b1.cell 1
  have c2 := HK.out.b1.lt
  have d0 := HK.out.b2.cell 0
  have d1 := HK.out.b2.cell 1
  have d2 := HK.out.b2.lt
  go_wp2_with fail
  refine dag 9 (by kernel_rfl) (by kernel_rfl) (.is ?_ :: .like (IsInts 5 [2, 4, 4, 6, 7]) :: .like (IsInts 5 [2, 4, 4, 6, 7]) :: .is (.tuple #[.int .i64 4, .int .i64 0]) :: .is ?_ :: .is ?_ :: .is ?_ :: .is ?_ :: .is ?_ :: []) rfl ?st2 ?ob2
  case st2 => repeat (first | exact stab_nil | refine stab_is ?_ | refine stab_like IsInts.stab ?_)
  case ob2 =>
  intro env2 V2 hG
  obtain ⟨hc, hf⟩ := bcell hG
  have HG := Lib.hid hG
  clear hG
  iterate 1 (refine obls_is ?_ ?_; unfold doesAt; go_simp; (try go_bits); (first | (refine ⟨brefl _, ?_⟩; rfl) | rfl); intro K hK; go_simp; refine hK _ ?_; clear hK K)
  refine obls_like (fun _ => ?_) ?_
  · unfold doesAt
    go_simp
    exact ⟨balloc (brefl _) _, _, _, rfl, lit_sl (xs := [2, 4, 4, 6, 7]) (Blk.new _ _ _) (by simp) rfl (by omega)⟩
  intro K hK
  go_simp
  refine hK _ ?_
  clear hK K
  refine obls_like (fun hl => ?_) ?_
  · obtain ⟨G, c, hE, hsl⟩ : IsInts 5 [2, 4, 4, 6, 7] (env2 1) V2 := hl ⟨1, .data⟩ (by simp) rfl
    have Hsl := Lib.hid hsl
    clear hsl
    unfold doesAt
    go_simp
    refine (longs_any G 5 c V2).mono ?_
    rintro e w3 ⟨rfl, hb3⟩
    exact ⟨_, rfl, hb3, G, c, rfl, Hsl.out.later hb3⟩
  intro K hK
  go_simp
  refine hK _ ?_
  clear hK K
  refine obls_isL (fun hl => ?_) ?_
  · obtain ⟨G, c, hE, hsl⟩ : IsInts 5 [2, 4, 4, 6, 7] (env2 2) V2 := hl ⟨2, .data⟩ (by simp) rfl
    have Hsl := Lib.hid hsl
    clear hsl
    unfold doesAt
    go_simp
    refine (t_ch (HK.out.later HG.out) Hsl.out x_h2).mono ?_
    rintro e w3 ⟨rfl, hb3⟩
    exact ⟨rfl, hb3⟩
  intro K hK
  go_simp
  refine hK _ ?_
  clear hK K
  repeat (refine obls_is ?_ ?_; unfold doesAt; go_simp; (try go_bits); (first | (refine ⟨brefl _, ?_⟩; rfl) | rfl); intro K hK; go_simp; refine hK _ ?_; clear hK K)
  refine obls_nil (fun _ => ?_)
  clear c0 c1 c2 d0 d1 d2
  have HKn := Lib.hid (HK.out.later HG.out)
  clear HK 
  have HK := HKn
  clear HKn 
  clear hc hf HG
  have c0 := HK.out.b1.cell 0
  have c1 := HK.out.b1.cell 1
  have c2 := HK.out.b1.lt
  have d0 := HK.out.b2.cell 0
  have d1 := HK.out.b2.cell 1
  have d2 := HK.out.b2.lt
  go_wp2_with fail
  refine dag 9 (by kernel_rfl) (by kernel_rfl) (.is ?_ :: .like (IsInts 4 [2, 4, 4, 7]) :: .like (IsInts 4 [2, 4, 4, 7]) :: .is (.tuple #[.int .i64 0, .int .i64 15]) :: .is ?_ :: .is ?_ :: .is ?_ :: .is ?_ :: .is ?_ :: []) rfl ?st3 ?ob3
  case st3 => repeat (first | exact stab_nil | refine stab_is ?_ | refine stab_like IsInts.stab ?_)
  case ob3 =>
  intro env3 V3 hG
  obtain ⟨hc, hf⟩ := bcell hG
  have HG := Lib.hid hG
  clear hG
  iterate 1 (refine obls_is ?_ ?_; unfold doesAt; go_simp; (try go_bits); (first | (refine ⟨brefl _, ?_⟩; rfl) | rfl); intro K hK; go_simp; refine hK _ ?_; clear hK K)
  refine obls_like (fun _ => ?_) ?_
  · unfold doesAt
    go_simp
    exact ⟨balloc (brefl _) _, _, _, rfl, lit_sl (xs := [2, 4, 4, 7]) (Blk.new _ _ _) (by simp) rfl (by omega)⟩
  intro K hK
  go_simp
  refine hK _ ?_
  clear hK K
  refine obls_like (fun hl => ?_) ?_
  · obtain ⟨G, c, hE, hsl⟩ : IsInts 4 [2, 4, 4, 7] (env3 1) V3 := hl ⟨1, .data⟩ (by simp) rfl
    have Hsl := Lib.hid hsl
    clear hsl
    unfold doesAt
    go_simp
    refine (longs_any G 4 c V3).mono ?_
    rintro e w3 ⟨rfl, hb3⟩
    exact ⟨_, rfl, hb3, G, c, rfl, Hsl.out.later hb3⟩
  intro K hK
  go_simp
  refine hK _ ?_
  clear hK K
  refine obls_isL (fun hl => ?_) ?_
  · obtain ⟨G, c, hE, hsl⟩ : IsInts 4 [2, 4, 4, 7] (env3 2) V3 := hl ⟨2, .data⟩ (by simp) rfl
    have Hsl := Lib.hid hsl
    clear hsl
    unfold doesAt
    go_simp
    refine (t_ch (HK.out.later HG.out) Hsl.out x_h3).mono ?_
    rintro e w3 ⟨rfl, hb3⟩
    exact ⟨rfl, hb3⟩
  intro K hK
  go_simp
  refine hK _ ?_
  clear hK K
  repeat (refine obls_is ?_ ?_; unfold doesAt; go_simp; (try go_bits); (first | (refine ⟨brefl _, ?_⟩; rfl) | rfl); intro K hK; go_simp; refine hK _ ?_; clear hK K)
  refine obls_nil (fun _ => ?_)
  clear c0 c1 c2 d0 d1 d2
  have HKn := Lib.hid (HK.out.later HG.out)
  clear HK 
  have HK := HKn
  clear HKn 
  clear hc hf HG
  have c0 := HK.out.b1.cell 0
  have c1 := HK.out.b1.cell 1
  have c2 := HK.out.b1.lt
  have d0 := HK.out.b2.cell 0
  have d1 := HK.out.b2.cell 1
  have d2 := HK.out.b2.lt
  go_wp2_with fail
  refine dag 9 (by kernel_rfl) (by kernel_rfl) (.is ?_ :: .like (IsInts 5 [2, 4, 4, 7, 8]) :: .like (IsInts 5 [2, 4, 4, 7, 8]) :: .is (.tuple #[.int .i64 0, .int .i64 19]) :: .is ?_ :: .is ?_ :: .is ?_ :: .is ?_ :: .is ?_ :: []) rfl ?st4 ?ob4
  case st4 => repeat (first | exact stab_nil | refine stab_is ?_ | refine stab_like IsInts.stab ?_)
  case ob4 =>
  intro env4 V4 hG
  obtain ⟨hc, hf⟩ := bcell hG
  have HG := Lib.hid hG
  clear hG
  iterate 1 (refine obls_is ?_ ?_; unfold doesAt; go_simp; (try go_bits); (first | (refine ⟨brefl _, ?_⟩; rfl) | rfl); intro K hK; go_simp; refine hK _ ?_; clear hK K)
  refine obls_like (fun _ => ?_) ?_
  · unfold doesAt
    go_simp
    exact ⟨balloc (brefl _) _, _, _, rfl, lit_sl (xs := [2, 4, 4, 7, 8]) (Blk.new _ _ _) (by simp) rfl (by omega)⟩
  intro K hK
  go_simp
  refine hK _ ?_
  clear hK K
  refine obls_like (fun hl => ?_) ?_
  · obtain ⟨G, c, hE, hsl⟩ : IsInts 5 [2, 4, 4, 7, 8] (env4 1) V4 := hl ⟨1, .data⟩ (by simp) rfl
    have Hsl := Lib.hid hsl
    clear hsl
    unfold doesAt
    go_simp
    refine (longs_any G 5 c V4).mono ?_
    rintro e w3 ⟨rfl, hb3⟩
    exact ⟨_, rfl, hb3, G, c, rfl, Hsl.out.later hb3⟩
  intro K hK
  go_simp
  refine hK _ ?_
  clear hK K
  refine obls_isL (fun hl => ?_) ?_
  · obtain ⟨G, c, hE, hsl⟩ : IsInts 5 [2, 4, 4, 7, 8] (env4 2) V4 := hl ⟨2, .data⟩ (by simp) rfl
    have Hsl := Lib.hid hsl
    clear hsl
    unfold doesAt
    go_simp
    refine (t_ch (HK.out.later HG.out) Hsl.out x_h4).mono ?_
    rintro e w3 ⟨rfl, hb3⟩
    exact ⟨rfl, hb3⟩
  intro K hK
  go_simp
  refine hK _ ?_
  clear hK K
  repeat (refine obls_is ?_ ?_; unfold doesAt; go_simp; (try go_bits); (first | (refine ⟨brefl _, ?_⟩; rfl) | rfl); intro K hK; go_simp; refine hK _ ?_; clear hK K)
  refine obls_nil (fun _ => ?_)
  clear c0 c1 c2 d0 d1 d2
  have HKn := Lib.hid (HK.out.later HG.out)
  clear HK 
  have HK := HKn
  clear HKn 
  clear hc hf HG
  have c0 := HK.out.b1.cell 0
  have c1 := HK.out.b1.cell 1
  have c2 := HK.out.b1.lt
  have d0 := HK.out.b2.cell 0
  have d1 := HK.out.b2.cell 1
  have d2 := HK.out.b2.lt
  go_wp2_with fail
  refine (t_few HK.out).mono ?_
  rintro e U5 ⟨rfl, hb⟩
  clear c0 c1 c2 d0 d1 d2
  have HKn := Lib.hid (HK.out.later hb)
  clear HK 
  have HK := HKn
  clear HKn 
  clear hb
  have c0 := HK.out.b1.cell 0
  have c1 := HK.out.b1.cell 1
  have c2 := HK.out.b1.lt
  have d0 := HK.out.b2.cell 0
  have d1 := HK.out.b2.cell 1
  have d2 := HK.out.b2.lt
  go_wp2_with fail
  refine (t_few0 HK.out).mono ?_
  rintro e U6 ⟨rfl, hb⟩
  clear c0 c1 c2 d0 d1 d2
  have HKn := Lib.hid (HK.out.later hb)
  clear HK 
  have HK := HKn
  clear HKn 
  clear hb
  have c0 := HK.out.b1.cell 0
  have c1 := HK.out.b1.cell 1
  have c2 := HK.out.b1.lt
  have d0 := HK.out.b2.cell 0
  have d1 := HK.out.b2.cell 1
  have d2 := HK.out.b2.lt
  go_wp2_with fail
  refine (t_hours HK.out).mono ?_
  rintro e U7 ⟨g1, hs1, rfl, hb, hsl, he⟩
  clear c0 c1 c2 d0 d1 d2
  have HKn := Lib.hid (HK.out.later hb)
  clear HK 
  have HK := HKn
  clear HKn 
  have FH := Lib.hid hsl
  have FE := Lib.hid he
  clear hb hsl he
  have c0 := HK.out.b1.cell 0
  have c1 := HK.out.b1.cell 1
  have c2 := HK.out.b1.lt
  have d0 := HK.out.b2.cell 0
  have d1 := HK.out.b2.cell 1
  have d2 := HK.out.b2.lt
  go_wp2_with fail
  refine dag 8 (by kernel_rfl) (by kernel_rfl) (.is ?_ :: .is (.agg #[.int .i64 2, .int .i64 9]) :: .is (.tuple #[.int .i64 3, .int .i64 0]) :: .is ?_ :: .is ?_ :: .is ?_ :: .is ?_ :: .is ?_ :: []) rfl ?st8 ?ob8
  case st8 => repeat (first | exact stab_nil | refine stab_is ?_)
  case ob8 =>
  intro env8 V8 hG
  obtain ⟨hc, hf⟩ := bcell hG
  have HG := Lib.hid hG
  clear hG
  iterate 1 (refine obls_is ?_ ?_; unfold doesAt; go_simp; (try go_bits); (first | (refine ⟨brefl _, ?_⟩; rfl) | rfl); intro K hK; go_simp; refine hK _ ?_; clear hK K)
  refine obls_is ?_ ?_
  · unfold doesAt
    go_simp
    refine (to_any 2 9 V8).mono ?_
    rintro e w3 ⟨rfl, rfl⟩
    exact ⟨rfl, balloc (brefl _) _⟩
  intro K hK
  go_simp
  refine hK _ ?_
  clear hK K
  refine obls_is ?_ ?_
  · unfold doesAt
    go_simp
    refine (t_nd (HK.out.later HG.out) x_n1).mono ?_
    rintro e w3 ⟨rfl, hb3⟩
    exact ⟨rfl, hb3⟩
  intro K hK
  go_simp
  refine hK _ ?_
  clear hK K
  repeat (refine obls_is ?_ ?_; unfold doesAt; go_simp; (try go_bits); (first | (refine ⟨brefl _, ?_⟩; rfl) | rfl); intro K hK; go_simp; refine hK _ ?_; clear hK K)
  refine obls_nil (fun _ => ?_)
  clear c0 c1 c2 d0 d1 d2
  have HKn := Lib.hid (HK.out.later HG.out)
  have FHn := Lib.hid (FH.out.later HG.out)
  clear HK FH
  have HK := HKn
  have FH := FHn
  clear HKn FHn
  clear hc hf HG
  have c0 := HK.out.b1.cell 0
  have c1 := HK.out.b1.cell 1
  have c2 := HK.out.b1.lt
  have d0 := HK.out.b2.cell 0
  have d1 := HK.out.b2.cell 1
  have d2 := HK.out.b2.lt
  go_wp2_with fail
  refine dag 8 (by kernel_rfl) (by kernel_rfl) (.is ?_ :: .is (.agg #[.int .i64 9, .int .i64 2]) :: .is (.tuple #[.int .i64 0, .int .i64 3]) :: .is ?_ :: .is ?_ :: .is ?_ :: .is ?_ :: .is ?_ :: []) rfl ?st9 ?ob9
  case st9 => repeat (first | exact stab_nil | refine stab_is ?_)
  case ob9 =>
  intro env9 V9 hG
  obtain ⟨hc, hf⟩ := bcell hG
  have HG := Lib.hid hG
  clear hG
  iterate 1 (refine obls_is ?_ ?_; unfold doesAt; go_simp; (try go_bits); (first | (refine ⟨brefl _, ?_⟩; rfl) | rfl); intro K hK; go_simp; refine hK _ ?_; clear hK K)
  refine obls_is ?_ ?_
  · unfold doesAt
    go_simp
    refine (to_any 9 2 V9).mono ?_
    rintro e w3 ⟨rfl, rfl⟩
    exact ⟨rfl, balloc (brefl _) _⟩
  intro K hK
  go_simp
  refine hK _ ?_
  clear hK K
  refine obls_is ?_ ?_
  · unfold doesAt
    go_simp
    refine (t_nd (HK.out.later HG.out) x_n2).mono ?_
    rintro e w3 ⟨rfl, hb3⟩
    exact ⟨rfl, hb3⟩
  intro K hK
  go_simp
  refine hK _ ?_
  clear hK K
  repeat (refine obls_is ?_ ?_; unfold doesAt; go_simp; (try go_bits); (first | (refine ⟨brefl _, ?_⟩; rfl) | rfl); intro K hK; go_simp; refine hK _ ?_; clear hK K)
  refine obls_nil (fun _ => ?_)
  clear c0 c1 c2 d0 d1 d2
  have HKn := Lib.hid (HK.out.later HG.out)
  have FHn := Lib.hid (FH.out.later HG.out)
  clear HK FH
  have HK := HKn
  have FH := FHn
  clear HKn FHn
  clear hc hf HG
  have c0 := HK.out.b1.cell 0
  have c1 := HK.out.b1.cell 1
  have c2 := HK.out.b1.lt
  have d0 := HK.out.b2.cell 0
  have d1 := HK.out.b2.cell 1
  have d2 := HK.out.b2.lt
  go_wp2_with fail
  refine dag 11 (by kernel_rfl) (by kernel_rfl) (.is ?_ :: .is (.agg #[.int .i64 2, .int .i64 5]) :: .is (.agg #[.int .i64 6, .int .i64 9]) :: .like (IsRgs [⟨2, 5⟩, ⟨6, 9⟩]) :: .like (IsRgs [⟨2, 5⟩, ⟨6, 9⟩]) :: .is (.tuple #[.int .i64 2, .int .i64 0]) :: .is ?_ :: .is ?_ :: .is ?_ :: .is ?_ :: .is ?_ :: []) rfl ?st10 ?ob10
  case st10 => repeat (first | exact stab_nil | refine stab_is ?_ | refine stab_like IsRgs.stab ?_)
  case ob10 =>
  intro env10 V10 hG
  obtain ⟨hc, hf⟩ := bcell hG
  have HG := Lib.hid hG
  clear hG
  iterate 1 (refine obls_is ?_ ?_; unfold doesAt; go_simp; (try go_bits); (first | (refine ⟨brefl _, ?_⟩; rfl) | rfl); intro K hK; go_simp; refine hK _ ?_; clear hK K)
  refine obls_is ?_ ?_
  · unfold doesAt
    go_simp
    refine (to_any 2 5 V10).mono ?_
    rintro e w3 ⟨rfl, rfl⟩
    exact ⟨rfl, balloc (brefl _) _⟩
  intro K hK
  go_simp
  refine hK _ ?_
  clear hK K
  refine obls_is ?_ ?_
  · unfold doesAt
    go_simp
    refine (to_any 6 9 V10).mono ?_
    rintro e w3 ⟨rfl, rfl⟩
    exact ⟨rfl, balloc (brefl _) _⟩
  intro K hK
  go_simp
  refine hK _ ?_
  clear hK K
  refine obls_like (fun _ => ?_) ?_
  · unfold doesAt
    go_simp
    exact ⟨balloc (brefl _) _, _, _, _, rfl, rgs_sl (x := ⟨2, 5⟩) (y := ⟨6, 9⟩) (Blk.new _ _ _) (by simp)⟩
  intro K hK
  go_simp
  refine hK _ ?_
  clear hK K
  refine obls_like (fun hl => ?_) ?_
  · obtain ⟨G, n, c, hE, hsl⟩ : IsRgs [⟨2, 5⟩, ⟨6, 9⟩] (env10 3) V10 := hl ⟨3, .data⟩ (by simp) rfl
    have Hsl := Lib.hid hsl
    clear hsl
    unfold doesAt
    go_simp
    refine (ranges_any G n c V10).mono ?_
    rintro e w3 ⟨rfl, hb3⟩
    exact ⟨_, rfl, hb3, G, n, c, rfl, Hsl.out.later hb3⟩
  intro K hK
  go_simp
  refine hK _ ?_
  clear hK K
  refine obls_isL (fun hl => ?_) ?_
  · obtain ⟨G, n, c, hE, hsl⟩ : IsRgs [⟨2, 5⟩, ⟨6, 9⟩] (env10 4) V10 := hl ⟨4, .data⟩ (by simp) rfl
    have Hsl := Lib.hid hsl
    clear hsl
    unfold doesAt
    go_simp
    refine (t_cp (HK.out.later HG.out) Hsl.out x_p1).mono ?_
    rintro e w3 ⟨rfl, hb3⟩
    exact ⟨rfl, hb3⟩
  intro K hK
  go_simp
  refine hK _ ?_
  clear hK K
  repeat (refine obls_is ?_ ?_; unfold doesAt; go_simp; (try go_bits); (first | (refine ⟨brefl _, ?_⟩; rfl) | rfl); intro K hK; go_simp; refine hK _ ?_; clear hK K)
  refine obls_nil (fun _ => ?_)
  clear c0 c1 c2 d0 d1 d2
  have HKn := Lib.hid (HK.out.later HG.out)
  have FHn := Lib.hid (FH.out.later HG.out)
  clear HK FH
  have HK := HKn
  have FH := FHn
  clear HKn FHn
  clear hc hf HG
  have c0 := HK.out.b1.cell 0
  have c1 := HK.out.b1.cell 1
  have c2 := HK.out.b1.lt
  have d0 := HK.out.b2.cell 0
  have d1 := HK.out.b2.cell 1
  have d2 := HK.out.b2.lt
  go_wp2_with fail
  refine dag 11 (by kernel_rfl) (by kernel_rfl) (.is ?_ :: .is (.agg #[.int .i64 2, .int .i64 5]) :: .is (.agg #[.int .i64 5, .int .i64 9]) :: .like (IsRgs [⟨2, 5⟩, ⟨5, 9⟩]) :: .like (IsRgs [⟨2, 5⟩, ⟨5, 9⟩]) :: .is (.tuple #[.int .i64 0, .int .i64 16]) :: .is ?_ :: .is ?_ :: .is ?_ :: .is ?_ :: .is ?_ :: []) rfl ?st11 ?ob11
  case st11 => repeat (first | exact stab_nil | refine stab_is ?_ | refine stab_like IsRgs.stab ?_)
  case ob11 =>
  intro env11 V11 hG
  obtain ⟨hc, hf⟩ := bcell hG
  have HG := Lib.hid hG
  clear hG
  iterate 1 (refine obls_is ?_ ?_; unfold doesAt; go_simp; (try go_bits); (first | (refine ⟨brefl _, ?_⟩; rfl) | rfl); intro K hK; go_simp; refine hK _ ?_; clear hK K)
  refine obls_is ?_ ?_
  · unfold doesAt
    go_simp
    refine (to_any 2 5 V11).mono ?_
    rintro e w3 ⟨rfl, rfl⟩
    exact ⟨rfl, balloc (brefl _) _⟩
  intro K hK
  go_simp
  refine hK _ ?_
  clear hK K
  refine obls_is ?_ ?_
  · unfold doesAt
    go_simp
    refine (to_any 5 9 V11).mono ?_
    rintro e w3 ⟨rfl, rfl⟩
    exact ⟨rfl, balloc (brefl _) _⟩
  intro K hK
  go_simp
  refine hK _ ?_
  clear hK K
  refine obls_like (fun _ => ?_) ?_
  · unfold doesAt
    go_simp
    exact ⟨balloc (brefl _) _, _, _, _, rfl, rgs_sl (x := ⟨2, 5⟩) (y := ⟨5, 9⟩) (Blk.new _ _ _) (by simp)⟩
  intro K hK
  go_simp
  refine hK _ ?_
  clear hK K
  refine obls_like (fun hl => ?_) ?_
  · obtain ⟨G, n, c, hE, hsl⟩ : IsRgs [⟨2, 5⟩, ⟨5, 9⟩] (env11 3) V11 := hl ⟨3, .data⟩ (by simp) rfl
    have Hsl := Lib.hid hsl
    clear hsl
    unfold doesAt
    go_simp
    refine (ranges_any G n c V11).mono ?_
    rintro e w3 ⟨rfl, hb3⟩
    exact ⟨_, rfl, hb3, G, n, c, rfl, Hsl.out.later hb3⟩
  intro K hK
  go_simp
  refine hK _ ?_
  clear hK K
  refine obls_isL (fun hl => ?_) ?_
  · obtain ⟨G, n, c, hE, hsl⟩ : IsRgs [⟨2, 5⟩, ⟨5, 9⟩] (env11 4) V11 := hl ⟨4, .data⟩ (by simp) rfl
    have Hsl := Lib.hid hsl
    clear hsl
    unfold doesAt
    go_simp
    refine (t_cp (HK.out.later HG.out) Hsl.out x_p2).mono ?_
    rintro e w3 ⟨rfl, hb3⟩
    exact ⟨rfl, hb3⟩
  intro K hK
  go_simp
  refine hK _ ?_
  clear hK K
  repeat (refine obls_is ?_ ?_; unfold doesAt; go_simp; (try go_bits); (first | (refine ⟨brefl _, ?_⟩; rfl) | rfl); intro K hK; go_simp; refine hK _ ?_; clear hK K)
  refine obls_nil (fun _ => ?_)
  clear c0 c1 c2 d0 d1 d2
  have HKn := Lib.hid (HK.out.later HG.out)
  have FHn := Lib.hid (FH.out.later HG.out)
  clear HK FH
  have HK := HKn
  have FH := FHn
  clear HKn FHn
  clear hc hf HG
  have c0 := HK.out.b1.cell 0
  have c1 := HK.out.b1.cell 1
  have c2 := HK.out.b1.lt
  have d0 := HK.out.b2.cell 0
  have d1 := HK.out.b2.cell 1
  have d2 := HK.out.b2.lt
  go_wp2_with fail
  refine (t_proof HK.out).mono ?_
  rintro e U12 ⟨g2, ws2, rfl, hb, hsl, he⟩
  clear c0 c1 c2 d0 d1 d2
  have HKn := Lib.hid (HK.out.later hb)
  have FHn := Lib.hid (FH.out.later hb)
  clear HK FH
  have HK := HKn
  have FH := FHn
  clear HKn FHn
  have FP := Lib.hid hsl
  have FQ := Lib.hid he
  clear hb hsl he
  have c0 := HK.out.b1.cell 0
  have c1 := HK.out.b1.cell 1
  have c2 := HK.out.b1.lt
  have d0 := HK.out.b2.cell 0
  have d1 := HK.out.b2.cell 1
  have d2 := HK.out.b2.lt
  go_wp2_with fail
  refine (t_early HK.out).mono ?_
  rintro e U13 ⟨G3, c3, rfl, hb, hsl⟩
  clear c0 c1 c2 d0 d1 d2
  have HKn := Lib.hid (HK.out.later hb)
  have FHn := Lib.hid (FH.out.later hb)
  have FPn := Lib.hid (FP.out.later hb)
  clear HK FH FP
  have HK := HKn
  have FH := FHn
  have FP := FPn
  clear HKn FHn FPn
  have FA := Lib.hid hsl
  clear hb hsl
  have c0 := HK.out.b1.cell 0
  have c1 := HK.out.b1.cell 1
  have c2 := HK.out.b1.lt
  have d0 := HK.out.b2.cell 0
  have d1 := HK.out.b2.cell 1
  have d2 := HK.out.b2.lt
  go_wp2_with fail
  refine (t_late HK.out).mono ?_
  rintro e U14 ⟨G4, c4, rfl, hb, hsl⟩
  clear c0 c1 c2 d0 d1 d2
  have HKn := Lib.hid (HK.out.later hb)
  have FHn := Lib.hid (FH.out.later hb)
  have FPn := Lib.hid (FP.out.later hb)
  have FAn := Lib.hid (FA.out.later hb)
  clear HK FH FP FA
  have HK := HKn
  have FH := FHn
  have FP := FPn
  have FA := FAn
  clear HKn FHn FPn FAn
  have FL := Lib.hid hsl
  clear hb hsl
  have c0 := HK.out.b1.cell 0
  have c1 := HK.out.b1.cell 1
  have c2 := HK.out.b1.lt
  have d0 := HK.out.b2.cell 0
  have d1 := HK.out.b2.cell 1
  have d2 := HK.out.b2.lt
  go_wp2_with fail
  refine (t_keep HK.out).mono ?_
  rintro e U15 ⟨G5, c5, rfl, hb, hsl⟩
  clear c0 c1 c2 d0 d1 d2
  have HKn := Lib.hid (HK.out.later hb)
  have FHn := Lib.hid (FH.out.later hb)
  have FPn := Lib.hid (FP.out.later hb)
  have FAn := Lib.hid (FA.out.later hb)
  have FLn := Lib.hid (FL.out.later hb)
  clear HK FH FP FA FL
  have HK := HKn
  have FH := FHn
  have FP := FPn
  have FA := FAn
  have FL := FLn
  clear HKn FHn FPn FAn FLn
  have FK := Lib.hid hsl
  clear hb hsl
  have c0 := HK.out.b1.cell 0
  have c1 := HK.out.b1.cell 1
  have c2 := HK.out.b1.lt
  have d0 := HK.out.b2.cell 0
  have d1 := HK.out.b2.cell 1
  have d2 := HK.out.b2.lt
  go_wp2_with fail
  refine (t_keep2 HK.out).mono ?_
  rintro e U16 ⟨v6, rfl, hb⟩
  clear c0 c1 c2 d0 d1 d2
  have HKn := Lib.hid (HK.out.later hb)
  have FHn := Lib.hid (FH.out.later hb)
  have FPn := Lib.hid (FP.out.later hb)
  have FAn := Lib.hid (FA.out.later hb)
  have FLn := Lib.hid (FL.out.later hb)
  have FKn := Lib.hid (FK.out.later hb)
  clear HK FH FP FA FL FK
  have HK := HKn
  have FH := FHn
  have FP := FPn
  have FA := FAn
  have FL := FLn
  have FK := FKn
  clear HKn FHn FPn FAn FLn FKn
  clear hb
  have c0 := HK.out.b1.cell 0
  have c1 := HK.out.b1.cell 1
  have c2 := HK.out.b1.lt
  have d0 := HK.out.b2.cell 0
  have d1 := HK.out.b2.cell 1
  have d2 := HK.out.b2.lt
  go_wp2_with fail
  refine (t_rch HK.out FH.out FE.out).mono ?_
  rintro e U17 ⟨rfl, hb⟩
  clear c0 c1 c2 d0 d1 d2
  have HKn := Lib.hid (HK.out.later hb)
  have FHn := Lib.hid (FH.out.later hb)
  have FPn := Lib.hid (FP.out.later hb)
  have FAn := Lib.hid (FA.out.later hb)
  have FLn := Lib.hid (FL.out.later hb)
  have FKn := Lib.hid (FK.out.later hb)
  clear HK FH FP FA FL FK
  have HK := HKn
  have FH := FHn
  have FP := FPn
  have FA := FAn
  have FL := FLn
  have FK := FKn
  clear HKn FHn FPn FAn FLn FKn
  clear hb
  have c0 := HK.out.b1.cell 0
  have c1 := HK.out.b1.cell 1
  have c2 := HK.out.b1.lt
  have d0 := HK.out.b2.cell 0
  have d1 := HK.out.b2.cell 1
  have d2 := HK.out.b2.lt
  go_wp2_with fail
  refine (t_rcp HK.out FP.out FQ.out).mono ?_
  rintro e U18 ⟨rfl, hb⟩
  clear c0 c1 c2 d0 d1 d2
  have HKn := Lib.hid (HK.out.later hb)
  have FHn := Lib.hid (FH.out.later hb)
  have FPn := Lib.hid (FP.out.later hb)
  have FAn := Lib.hid (FA.out.later hb)
  have FLn := Lib.hid (FL.out.later hb)
  have FKn := Lib.hid (FK.out.later hb)
  clear HK FH FP FA FL FK
  have HK := HKn
  have FH := FHn
  have FP := FPn
  have FA := FAn
  have FL := FLn
  have FK := FKn
  clear HKn FHn FPn FAn FLn FKn
  clear hb
  have c0 := HK.out.b1.cell 0
  have c1 := HK.out.b1.cell 1
  have c2 := HK.out.b1.lt
  have d0 := HK.out.b2.cell 0
  have d1 := HK.out.b2.cell 1
  have d2 := HK.out.b2.lt
  go_wp2_with fail
  refine (longs_any _ 3 3 _).mono ?_
  rintro e U19 ⟨rfl, hb0⟩
  obtain ⟨hsl, hb⟩ := lit3 [2, 4, 7] 3 hb0 rfl (by omega)
  clear c0 c1 c2 d0 d1 d2
  have HKn := Lib.hid (HK.out.later hb)
  have FHn := Lib.hid (FH.out.later hb)
  have FPn := Lib.hid (FP.out.later hb)
  have FAn := Lib.hid (FA.out.later hb)
  have FLn := Lib.hid (FL.out.later hb)
  have FKn := Lib.hid (FK.out.later hb)
  clear HK FH FP FA FL FK
  have HK := HKn
  have FH := FHn
  have FP := FPn
  have FA := FAn
  have FL := FLn
  have FK := FKn
  clear HKn FHn FPn FAn FLn FKn
  have HX := Lib.hid hsl
  clear hb hb0 hsl
  go_wp2_with fail
  refine (eqL FA.out HX.out).mono ?_
  clear HX
  rintro e U19b ⟨rfl, hb⟩
  have HKn := Lib.hid (HK.out.later hb)
  have FHn := Lib.hid (FH.out.later hb)
  have FPn := Lib.hid (FP.out.later hb)
  have FAn := Lib.hid (FA.out.later hb)
  have FLn := Lib.hid (FL.out.later hb)
  have FKn := Lib.hid (FK.out.later hb)
  clear HK FH FP FA FL FK
  have HK := HKn
  have FH := FHn
  have FP := FPn
  have FA := FAn
  have FL := FLn
  have FK := FKn
  clear HKn FHn FPn FAn FLn FKn
  clear hb
  have c0 := HK.out.b1.cell 0
  have c1 := HK.out.b1.cell 1
  have c2 := HK.out.b1.lt
  have d0 := HK.out.b2.cell 0
  have d1 := HK.out.b2.cell 1
  have d2 := HK.out.b2.lt
  go_wp2_with fail
  refine (longs_any _ 3 3 _).mono ?_
  rintro e U20 ⟨rfl, hb0⟩
  obtain ⟨hsl, hb⟩ := lit3 [4, 7, 9] 3 hb0 rfl (by omega)
  clear c0 c1 c2 d0 d1 d2
  have HKn := Lib.hid (HK.out.later hb)
  have FHn := Lib.hid (FH.out.later hb)
  have FPn := Lib.hid (FP.out.later hb)
  have FAn := Lib.hid (FA.out.later hb)
  have FLn := Lib.hid (FL.out.later hb)
  have FKn := Lib.hid (FK.out.later hb)
  clear HK FH FP FA FL FK
  have HK := HKn
  have FH := FHn
  have FP := FPn
  have FA := FAn
  have FL := FLn
  have FK := FKn
  clear HKn FHn FPn FAn FLn FKn
  have HX := Lib.hid hsl
  clear hb hb0 hsl
  go_wp2_with fail
  refine (eqL FL.out HX.out).mono ?_
  clear HX
  rintro e U20b ⟨rfl, hb⟩
  have HKn := Lib.hid (HK.out.later hb)
  have FHn := Lib.hid (FH.out.later hb)
  have FPn := Lib.hid (FP.out.later hb)
  have FAn := Lib.hid (FA.out.later hb)
  have FLn := Lib.hid (FL.out.later hb)
  have FKn := Lib.hid (FK.out.later hb)
  clear HK FH FP FA FL FK
  have HK := HKn
  have FH := FHn
  have FP := FPn
  have FA := FAn
  have FL := FLn
  have FK := FKn
  clear HKn FHn FPn FAn FLn FKn
  clear hb
  have c0 := HK.out.b1.cell 0
  have c1 := HK.out.b1.cell 1
  have c2 := HK.out.b1.lt
  have d0 := HK.out.b2.cell 0
  have d1 := HK.out.b2.cell 1
  have d2 := HK.out.b2.lt
  go_wp2_with fail
  refine (of__any _ 4 4 _).mono ?_
  rintro e U21 ⟨rfl, hb0⟩
  obtain ⟨hsl, hb⟩ := lit3 [0, 1, 2, 3] 4 hb0 rfl (by omega)
  clear c0 c1 c2 d0 d1 d2
  have HKn := Lib.hid (HK.out.later hb)
  have FHn := Lib.hid (FH.out.later hb)
  have FPn := Lib.hid (FP.out.later hb)
  have FAn := Lib.hid (FA.out.later hb)
  have FLn := Lib.hid (FL.out.later hb)
  have FKn := Lib.hid (FK.out.later hb)
  clear HK FH FP FA FL FK
  have HK := HKn
  have FH := FHn
  have FP := FPn
  have FA := FAn
  have FL := FLn
  have FK := FKn
  clear HKn FHn FPn FAn FLn FKn
  have HX := Lib.hid hsl
  clear hb hb0 hsl
  go_wp2_with fail
  refine (eqI FK.out HX.out).mono ?_
  clear HX
  rintro e U21b ⟨rfl, hb⟩
  have HKn := Lib.hid (HK.out.later hb)
  have FHn := Lib.hid (FH.out.later hb)
  have FPn := Lib.hid (FP.out.later hb)
  have FAn := Lib.hid (FA.out.later hb)
  have FLn := Lib.hid (FL.out.later hb)
  have FKn := Lib.hid (FK.out.later hb)
  clear HK FH FP FA FL FK
  have HK := HKn
  have FH := FHn
  have FP := FPn
  have FA := FAn
  have FL := FLn
  have FK := FKn
  clear HKn FHn FPn FAn FLn FKn
  clear hb
  have c0 := HK.out.b1.cell 0
  have c1 := HK.out.b1.cell 1
  have c2 := HK.out.b1.lt
  have d0 := HK.out.b2.cell 0
  have d1 := HK.out.b2.cell 1
  have d2 := HK.out.b2.lt
  go_wp2_with fail
  go_ret
  exact ⟨rfl, HK.out.bel⟩
end Go.Proofs.Ytbbdlebmagknmaa
