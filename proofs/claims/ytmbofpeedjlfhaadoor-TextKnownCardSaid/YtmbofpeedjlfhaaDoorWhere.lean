/-
  The walk of text.Where.
-/
import Derived.Test.YtmbofpeedjlfhaaDoorIterB
import Derived.Laws.EntriesVeiled
import Derived.Test.YtmbofpeedjlfhaaDoorWhereP
import Derived.Test.YtmbofpeedjlfhaaDoorShelf
import Derived.Sort.QuietIn
namespace Go.Proofs.YtmbofpeedjlfhaaDoor
open Go.RowKit Go.PlainAid Go.Shelf
attribute [local go_sem] Oper.semAt_some

abbrev WhereIs (l c err : Int) (w : World) (e : Ending) (w' : World) : Prop := e = .returned (.tuple #[.int .i64 l, .int .i64 c, .int .i64 err]) ∧ Below w.heap.size w w'
/-- all that was told lies ahead of the place -/
def AheadOf (k : Nat) (pre : List (Nat × Int)) : Prop := ∀ y ∈ pre, y.1 < k
/-- left at the first rune behind the place -/
def StopW (k F b : Nat) (w3 : World) (c : Code) (pre : List (Nat × Int)) (W : World) : Prop :=
  ∃ (q : List (Nat × Int)) (p0 : Nat) (r0 : Int), (c = .exit 0 ∧ pre = q ++ [(p0, r0)] ∧ k ≤ p0 ∧ AheadOf k q) ∧ Boxed W b 3 (.int .i64 (colL q F + 1 : Nat)) ∧ Below b w3 W
theorem stopW_own {k F b B : Nat} {w3 : World} (c : Code) (hb : b ≤ w3.heap.size) (hB : b ≤ B) : OwnFrom B (StopW k F b w3 c) := fun s W W' row hs hg hr => by
  obtain ⟨q, p0, r0, h1, h2, h3⟩ := hs
  exact ⟨q, p0, r0, h1, (Own.from (boxed_own b 3 (fun (_ : Unit) => .int .i64 (colL q F + 1 : Nat))) B) () W W' row h2 hg hr, (ownFrom_below (β := Unit) hb hB) () W W' row h3 hg hr⟩
set_option maxHeartbeats 400000 in
theorem Where_no (s : ByteArray) (a : Int) (w : World) (h : a < 0 ∨ (s.size : Int) < a) : Calls Tryd.prog 22 #[.string s, .int .i64 a] w (WhereIs 0 0 16 w) := by
  rcases h with h | h
  · have d1 : decide (a < 0) = true := by simpa using h
    clear h
    go_enter Tryd.func22, Tryd.ntmps22
    go_wp2
    go_ret3
    exact ⟨rfl, (Below.refl _ w).alloc (Nat.le_refl _) _⟩
  · have d1 : decide (a < 0) = false := by simp; omega
    have d2 : decide ((s.size : Int) < a) = true := by simpa using h
    clear h
    go_enter Tryd.func22, Tryd.ntmps22
    go_wp2
    go_ret3
    exact ⟨rfl, (Below.refl _ w).alloc (Nat.le_refl _) _⟩
set_option maxRecDepth 100000 in
set_option maxHeartbeats 1000000 in
theorem Where_yes (s : ByteArray) (k : Nat) (w : World) (hz : s.size ≤ 140737488351232) (hk : k ≤ s.size) :
    Calls Tryd.prog 22 #[.string s, .int .i64 k] w (WhereIs (1 + endsN s k : Nat) (colN s (beginN s k) k : Nat) 0 w) := by
  have d1 : decide ((k : Int) < 0) = false := by simp
  have d2 : decide ((s.size : Int) < (k : Int)) = false := by simp; omega
  have hE := endsN_le s k
  have hBg := beginN_le s k
  have hcl := cutsAt_len s 0
  rw [← cuts_at] at hcl
  have hcount := fun W => Tryd.strings_Count_one (s.extract 0 k) 10 W
  have hlast := fun W => Tryd.strings_LastIndexByte (s.extract 0 k) 10 (by rw [ByteArray.size_extract]; omega) W
  simp only [count_ends s k hk, last_at s k hk] at hcount hlast
  obtain ⟨E, hEE⟩ : ∃ E, E = endsN s k := ⟨_, rfl⟩
  obtain ⟨F, hF⟩ : ∃ F, F = beginN s k := ⟨_, rfl⟩
  simp only [← hEE] at hcount
  simp only [← hF] at hlast
  rw [← hEE] at hE
  rw [← hF] at hBg
  rw [← hEE, ← hF]
  have HC := hide_ hcount
  have HL := hide_ hlast
  have mixed : Tryd.prog.follows .mixedOrders = true := by kernel_rfl
  clear hcount hlast hEE hF
  refine (callsIn_wide (n := 30)).1 ?_
  refine callsIn_of_wp_marks Tryd.func22 rfl trivial ?_ rfl
  simp only [Tryd.ntmps22, List.size_toArray, List.length_cons, List.length_nil, Nat.reduceAdd, Nat.reduceSub, Array.replicate_succ, Array.replicate_zero, List.push_toArray, List.append_toArray, List.nil_append, List.cons_append]
  gi_wp2_with fail
  refine ⟨trivial, ?_⟩
  refine (callsIn_wide.2 (HC.out _)).mono ?_
  rintro e w2 ⟨rfl, rfl⟩
  gi_wp2_with fail
  refine ⟨trivial, ?_⟩
  refine (callsIn_wide.2 (HL.out _)).mono ?_
  rintro e w2 ⟨rfl, rfl⟩
  gi_wp2_with fail
  refine ⟨trivial, ?_⟩
  refine (callsIn_wide.2 (cutting_any s _)).mono ?_
  rintro e w2 ⟨rfl, rfl⟩
  gi_wp2_with fail
  have b0 := (((Boxed.new w 3 (.int .i64 k)).alloc (.cells #[.int .i64 F] 3)).alloc (.cells #[.int .i64 1] 3)).alloc (.cells #[.string s] 9)
  have b1 := ((Boxed.new (w.alloc (.cells #[.int .i64 k] 3)) 3 (.int .i64 F)).alloc (.cells #[.int .i64 1] 3)).alloc (.cells #[.string s] 9)
  have b2 := (Boxed.new ((w.alloc (.cells #[.int .i64 k] 3)).alloc (.cells #[.int .i64 F] 3)) 3 (.int .i64 1)).alloc (.cells #[.string s] 9)
  have b3 := Boxed.new (((w.alloc (.cells #[.int .i64 k] 3)).alloc (.cells #[.int .i64 F] 3)).alloc (.cells #[.int .i64 1] 3)) 9 (.string s)
  simp only [World.size_alloc] at b1 b2 b3
  have hB3 : Below w.heap.size w ((((w.alloc (.cells #[.int .i64 k] 3)).alloc (.cells #[.int .i64 F] 3)).alloc (.cells #[.int .i64 1] 3)).alloc (.cells #[.string s] 9)) := ((((Below.refl _ w).alloc (Nat.le_refl _) _).alloc (by simp) _).alloc (by simp; omega) _).alloc (by simp; omega) _
  have hsz : ((((w.alloc (.cells #[.int .i64 k] 3)).alloc (.cells #[.int .i64 F] 3)).alloc (.cells #[.int .i64 1] 3)).alloc (.cells #[.string s] 9)).heap.size = w.heap.size + 1 + 1 + 1 + 1 := by simp
  obtain ⟨w3, hw3⟩ : ∃ w3, (((w.alloc (.cells #[.int .i64 k] 3)).alloc (.cells #[.int .i64 F] 3)).alloc (.cells #[.int .i64 1] 3)).alloc (.cells #[.string s] 9) = w3 := ⟨_, rfl⟩
  rw [hw3] at b0 b1 b2 b3 hB3 hsz ⊢
  clear hw3
  have HSZ := hide_ hsz
  have hnb : w.heap.size + 1 + 1 + 1 < w3.heap.size := by omega
  clear hsz
  refine rangeB (Bn := w.heap.size + 1 + 1 + 1) (s := s) (P' := 10) (Q' := 32) (by omega) rfl (by omega) b3.cell
    (fun pre W => AheadOf k pre ∧ (Boxed W (w.heap.size + 1 + 1) 3 (.int .i64 (colL pre F + 1 : Nat)) ∧ Below (w.heap.size + 1 + 1) w3 W))
    (StopW k F (w.heap.size + 1 + 1) w3)
    (OwnFrom.and (ownFrom_pure _ _) (OwnFrom.and (Own.from (boxed_own _ _ _) _) (ownFrom_below (by omega) (by omega))))
    (fun c => stopW_own c (by omega) (by omega))
    ⟨fun y hy => (by cases hy), b2, Below.refl _ _⟩ ?assign1 ?body1 ?done1 ?stop1
  case assign1 =>
    intro l x W K hK
    simp only [updA, List.setIfInBounds_toArray, List.set_cons_succ, List.set_cons_zero] at hK ⊢
    gi_wp2
    exact hK
  case done1 =>
    rintro D W hD ⟨hall, bN, hBW⟩ hkD
    have hcol := col_all s k F hall
    have hcc := colL_le (cuts s) F
    obtain ⟨C, hC⟩ : ∃ C, C = colL (cuts s) F + 1 := ⟨_, rfl⟩
    rw [← hC] at bN hcol
    have HCOL := hide_ hcol
    clear hcol
    have cN := bN.cell
    clear hall hC
    gi_wp2_with fail
    refine wpIn_region_quiet_lit rfl mixed (by kernel_rfl) ?_
    repeat (gi_big_quiet_step (fail))
    refine wpQuietIn_nil ?_
    rintro _ ⟨nq', rfl⟩
    gi_wp2
    have hkE : (W.drewN nq').heap[D]? = some (.deferred (some [])) := hkD
    have hBE : Below (w.heap.size + 1 + 1) w3 (W.drewN nq') := ⟨hBW.os, hBW.tape, hBW.output, hBW.size, hBW.block⟩
    refine ⟨by simp, .inl ⟨_, _, rfl, run_takeDeferred hkE, ?_⟩⟩
    exact ⟨.tuple #[.int .i64 (1 + E : Nat), .int .i64 (colN s F k : Nat), .int .i64 0], by rw [HCOL.out]; simp [results, Tryd.results22, go_sem], rfl, (hB3.trans (hBE.mono (by omega))).trans (belowK_b (n₀ := w.heap.size) (w := w) (Nat.le_refl _) _ D _ _ (by omega) hkE rfl rfl)⟩
  case stop1 =>
    rintro D c pre W hD hS ⟨pre0, p0, r0, ⟨rfl, rfl, hx, hall⟩, bN, hBW⟩ hkD
    have hcol := col_stop s pre0 (p0, r0) k F hS hx hall
    have hcc := colL_le pre0 F
    have hcc2 := hS.length_le
    rw [List.length_append] at hcc2
    obtain ⟨C, hC⟩ : ∃ C, C = colL pre0 F + 1 := ⟨_, rfl⟩
    rw [← hC] at bN hcol
    have HCOL := hide_ hcol
    clear hcol
    have cN := bN.cell
    clear hall hC hS hcc2
    gi_wp2_with fail
    refine wpIn_region_quiet_lit rfl mixed (by kernel_rfl) ?_
    repeat (gi_big_quiet_step (fail))
    refine wpQuietIn_nil ?_
    rintro _ ⟨nq', rfl⟩
    gi_wp2
    have hkE : (W.drewN nq').heap[D]? = some (.deferred (some [])) := hkD
    have hBE : Below (w.heap.size + 1 + 1) w3 (W.drewN nq') := ⟨hBW.os, hBW.tape, hBW.output, hBW.size, hBW.block⟩
    refine ⟨by simp, .inl ⟨_, _, rfl, run_takeDeferred hkE, ?_⟩⟩
    exact ⟨.tuple #[.int .i64 (1 + E : Nat), .int .i64 (colN s F k : Nat), .int .i64 0], by rw [HCOL.out]; simp [results, Tryd.results22, go_sem], rfl, (hB3.trans (hBE.mono (by omega))).trans (belowK_b (n₀ := w.heap.size) (w := w) (Nat.le_refl _) _ D _ _ (by omega) hkE rfl rfl)⟩
  case body1 =>
    rintro l pre ⟨p, r⟩ W hmem hl hr ⟨hall, bN, hBW⟩ hlen
    simp only [updA, List.setIfInBounds_toArray, List.set_cons_succ, List.set_cons_zero]
    have hpl : p < s.size := (cuts_mem s _ hmem).1
    have hcc := colL_le pre F
    have cK := (hBW.cell (p := ⟨w.heap.size, 0, none⟩) (by dsimp only; omega)).trans b0.cell
    have cF := (hBW.cell (p := ⟨w.heap.size + 1, 0, none⟩) (by dsimp only; omega)).trans b1.cell
    have hsn := colL_snoc pre (p, r) F
    obtain ⟨C, hC⟩ : ∃ C, C = colL pre F := ⟨_, rfl⟩
    rw [← hC] at bN hsn hcc
    have cN := bN.cell
    have fN := bN.frozen
    have HCC := hide_ hC
    have HSN := hide_ hsn
    have HALL := hide_ hall
    clear hC hsn hmem hall
    by_cases hpk : k ≤ p
    · have d3 : decide ((k : Int) ≤ (p : Int)) = true := by simp; omega
      have d3n : decide (k ≤ p) = true := by simpa using hpk
      have HPK := hide_ hpk
      clear hpk
      gi_wp2
      exact ⟨KeepsFrom.refl _ _, pre, p, r, ⟨rfl, rfl, HPK.out, HALL.out⟩, by rw [← HCC.out]; exact bN, hBW⟩
    · have d3 : decide ((k : Int) ≤ (p : Int)) = false := by simp; omega
      have d3n : decide (k ≤ p) = false := by simpa using hpk
      have HNEW := hide_ (show AheadOf k (pre ++ [(p, r)]) by
        intro y hy
        rcases List.mem_append.1 hy with hy | hy
        · exact HALL.out y hy
        · rw [List.mem_singleton.1 hy]; simp only; omega)
      clear hpk
      by_cases hpf : F ≤ p
      · have d4 : decide ((F : Int) ≤ (p : Int)) = true := by simp; omega
        have d4n : decide (F ≤ p) = true := by simpa using hpf
        have e1 := HSN.out
        rw [if_pos hpf] at e1
        have HE := hide_ e1
        clear hpf e1
        gi_wp2
        exact ⟨(KeepsOthers.setCell _ _ _).from _, KpB_set _ _ _ (by omega), HNEW.out, by rw [HE.out]; simpa using bN.set (.int .i64 ((C : Int) + 1 + 1)), hBW.setCell (p := ⟨w.heap.size + 1 + 1, 0, none⟩) (Nat.le_refl _) _⟩
      · have d4 : decide ((F : Int) ≤ (p : Int)) = false := by simp; omega
        have d4n : decide (F ≤ p) = false := by simpa using hpf
        have e1 := HSN.out
        rw [if_neg hpf] at e1
        have HE := hide_ e1
        clear hpf e1
        gi_wp2
        exact ⟨KeepsFrom.refl _ _, ⟨fun _ => rfl, (KeepsWalks.refl _)⟩, HNEW.out, by rw [HE.out]; exact bN, hBW⟩
end Go.Proofs.YtmbofpeedjlfhaaDoor
