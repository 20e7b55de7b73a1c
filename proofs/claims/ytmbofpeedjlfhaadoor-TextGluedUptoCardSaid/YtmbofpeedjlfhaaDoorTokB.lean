/-
  The walk of text.row, at the runes of a name.
-/
import Derived.Test.YtmbofpeedjlfhaaDoorIterB
import Derived.Laws.EntriesVeiled
import Derived.Test.YtmbofpeedjlfhaaDoorTokA
import Derived.Sort.QuietIn
namespace Go.Proofs.YtmbofpeedjlfhaaDoor
open Go.RowKit Go.PlainAid Go.Shelf
attribute [local go_sem] Oper.semAt_some
set_option linter.unusedVariables false

abbrev nameV : Value := .func (.func 50) #[] #[]
def Named (pre : List (Nat × Int)) : Prop := ∀ y ∈ pre, namR y.2 = true
/-- left at the first rune that is none of the name -/
def StopR (i b : Nat) (w3 : World) (c : Code) (pre : List (Nat × Int)) (W : World) : Prop :=
  ∃ (q : List (Nat × Int)) (p0 : Nat) (r0 : Int), (c = .ret ∧ pre = q ++ [(p0, r0)] ∧ namR r0 = false ∧ Named q) ∧ Boxed W b 3 (.int .i64 (i + p0 : Nat)) ∧ Below b w3 W
theorem stopR_own {i b B : Nat} {w3 : World} (c : Code) (hb : b ≤ w3.heap.size) (hB : b ≤ B) : OwnFrom B (StopR i b w3 c) := fun s W W' row hs hg hr => by
  obtain ⟨q, p0, r0, h1, h2, h3⟩ := hs
  exact ⟨q, p0, r0, h1, (Own.from (boxed_own b 3 (fun (_ : Unit) => .int .i64 (i + p0 : Nat))) B) () W W' row h2 hg hr, (ownFrom_below (β := Unit) hb hB) () W W' row h3 hg hr⟩
set_option maxRecDepth 100000 in
set_option maxHeartbeats 1000000 in
theorem row_any (s : ByteArray) (i : Nat) (w : World) (hz : s.size ≤ 140737488351232) (hi : i ≤ s.size) :
    Calls Tryd.prog 53 #[.string s, .int .i64 i, nameV] w fun e w' => e = .returned (.int .i64 (nameE s i)) ∧ Below w.heap.size w w' := by
  have mixed : Tryd.prog.follows .mixedOrders = true := by kernel_rfl
  refine (callsIn_wide (n := 30)).1 ?_
  refine callsIn_of_wp_marks Tryd.func53 rfl trivial ?_ rfl
  simp only [Tryd.ntmps53, List.size_toArray, List.length_cons, List.length_nil, Nat.reduceAdd, Nat.reduceSub, Array.replicate_succ, Array.replicate_zero, List.push_toArray, List.append_toArray, List.nil_append, List.cons_append]
  gi_wp2_with fail
  refine ⟨trivial, ?_⟩
  refine (callsIn_wide.2 (cutting_any (s.extract i s.size) _)).mono ?_
  rintro e w2 ⟨rfl, rfl⟩
  gi_wp2_with fail
  obtain ⟨t, ht⟩ : ∃ t, t = s.extract i s.size := ⟨_, rfl⟩
  have hts : t.size = s.size - i := by rw [ht, size_ext]
  have hstop : ∀ (q : List (Nat × Int)) (p0 : Nat) (r0 : Int), q ++ [(p0, r0)] <+: cuts t → Named q → namR r0 = false → nameE s i = i + p0 := fun q p0 r0 h1 h2 h3 => by
    rw [ht, cuts_at] at h1
    have := nameE_cuts s i hi q 0 (p0, r0) h1 h2 h3
    rw [Nat.add_zero] at this
    exact this
  have hall : Named (cuts t) → nameE s i = s.size := fun h => by
    rw [ht, cuts_at] at h
    have := nameE_all s i hi _ 0 (Nat.le_refl _) (Nat.zero_le _) h
    rw [Nat.add_zero] at this
    exact this
  have HSTOP := hide_ hstop
  have HALL := hide_ hall
  have HTS := hide_ hts
  rw [← ht] at ⊢
  clear ht hstop hall hts
  have b0 := (((Boxed.new w 3 (.int .i64 i)).alloc (.cells #[nameV] 85)).alloc (.cells #[.int .i64 0] 3)).alloc (.cells #[.string t] 9)
  have b1 := ((Boxed.new (w.alloc (.cells #[.int .i64 i] 3)) 85 nameV).alloc (.cells #[.int .i64 0] 3)).alloc (.cells #[.string t] 9)
  have b2 := (Boxed.new ((w.alloc (.cells #[.int .i64 i] 3)).alloc (.cells #[nameV] 85)) 3 (.int .i64 0)).alloc (.cells #[.string t] 9)
  have b3 := Boxed.new (((w.alloc (.cells #[.int .i64 i] 3)).alloc (.cells #[nameV] 85)).alloc (.cells #[.int .i64 0] 3)) 9 (.string t)
  simp only [World.size_alloc] at b1 b2 b3
  have hB3 : Below w.heap.size w ((((w.alloc (.cells #[.int .i64 i] 3)).alloc (.cells #[nameV] 85)).alloc (.cells #[.int .i64 0] 3)).alloc (.cells #[.string t] 9)) := ((((Below.refl _ w).alloc (Nat.le_refl _) _).alloc (by simp) _).alloc (by simp; omega) _).alloc (by simp; omega) _
  have hsz : ((((w.alloc (.cells #[.int .i64 i] 3)).alloc (.cells #[nameV] 85)).alloc (.cells #[.int .i64 0] 3)).alloc (.cells #[.string t] 9)).heap.size = w.heap.size + 1 + 1 + 1 + 1 := by simp
  obtain ⟨w3, hw3⟩ : ∃ w3, (((w.alloc (.cells #[.int .i64 i] 3)).alloc (.cells #[nameV] 85)).alloc (.cells #[.int .i64 0] 3)).alloc (.cells #[.string t] 9) = w3 := ⟨_, rfl⟩
  rw [hw3] at b0 b1 b2 b3 hB3 hsz ⊢
  clear hw3
  have HSZ := hide_ hsz
  have hnb : w.heap.size + 1 + 1 + 1 < w3.heap.size := by omega
  clear hsz
  refine rangeB (Bn := w.heap.size + 1 + 1 + 1) (s := t) (P' := 7) (Q' := 8) (by omega) rfl (by omega) b3.cell
    (fun pre W => Named pre ∧ (Boxed W (w.heap.size + 1 + 1) 3 (.int .i64 0) ∧ Below (w.heap.size + 1 + 1) w3 W))
    (StopR i (w.heap.size + 1 + 1) w3)
    (OwnFrom.and (ownFrom_pure _ _) (OwnFrom.and (Own.from (boxed_own _ _ _) _) (ownFrom_below (by omega) (by omega))))
    (fun c => stopR_own c (by omega) (by omega))
    ⟨fun y hy => (by cases hy), b2, Below.refl _ _⟩ ?assign1 ?body1 ?done1 ?stop1
  case assign1 =>
    intro l x W K hK
    simp only [updA, List.setIfInBounds_toArray, List.set_cons_succ, List.set_cons_zero] at hK ⊢
    gi_wp2
    exact hK
  case done1 =>
    rintro D W hD ⟨hn, bN, hBW⟩ hkD
    have HR := hide_ (HALL.out hn)
    have cN := bN.cell
    have fN := bN.frozen
    have lN := bN.lt
    clear hn
    gi_wp2
    have hkE : (W.setCell ⟨w.heap.size + 1 + 1, 0, none⟩ (.int .i64 s.size)).heap[D]? = some (.deferred (some [])) := (Below.heap_setCell W ⟨w.heap.size + 1 + 1, 0, none⟩ (.int .i64 s.size) D (by dsimp only; omega)).trans hkD
    have bE := bN.set (.int .i64 s.size)
    have hBE : Below (w.heap.size + 1 + 1) w3 (W.setCell ⟨w.heap.size + 1 + 1, 0, none⟩ (.int .i64 s.size)) := hBW.setCell (p := ⟨w.heap.size + 1 + 1, 0, none⟩) (Nat.le_refl _) _
    have bF : Boxed ((W.setCell ⟨w.heap.size + 1 + 1, 0, none⟩ (.int .i64 s.size)).putObj D (.deferred none)) (w.heap.size + 1 + 1) 3 (.int .i64 s.size) := (putObj_heap_ne (by omega)).trans bE
    have cF := bF.cell
    refine ⟨by simp, .inl ⟨_, _, rfl, run_takeDeferred hkE, ?_⟩⟩
    exact ⟨.int .i64 (nameE s i), by rw [HR.out]; simp [results, Tryd.results53, go_sem, cF], rfl, (hB3.trans (hBE.mono (by omega))).trans (belowK_b (n₀ := w.heap.size) (w := w) (Nat.le_refl _) _ D _ _ (by omega) hkE rfl rfl)⟩
  case stop1 =>
    rintro D c pre W hD hS ⟨q, p0, r0, ⟨rfl, rfl, hx, hall⟩, bN, hBW⟩ hkD
    have HR := hide_ (HSTOP.out q p0 r0 hS hall hx)
    have cN := bN.cell
    gi_wp2
    have bF : Boxed (W.putObj D (.deferred none)) (w.heap.size + 1 + 1) 3 (.int .i64 (i + p0 : Nat)) := (putObj_heap_ne (by omega)).trans bN
    have cF := bF.cell
    refine ⟨by simp, .inl ⟨_, _, rfl, run_takeDeferred hkD, ?_⟩⟩
    exact ⟨.int .i64 (nameE s i), by rw [HR.out]; simp [results, Tryd.results53, go_sem, cF], rfl, (hB3.trans (hBW.mono (by omega))).trans (belowK_b (n₀ := w.heap.size) (w := w) (Nat.le_refl _) _ D _ _ (by omega) hkD rfl rfl)⟩
  case body1 =>
    rintro l pre ⟨p, r⟩ W hmem hl hr ⟨hall, bN, hBW⟩ hlen
    simp only [updA, List.setIfInBounds_toArray, List.set_cons_succ, List.set_cons_zero]
    have hpl : p < t.size := (cuts_mem t _ hmem).1
    have hts := HTS.out
    have cK := (hBW.cell (p := ⟨w.heap.size, 0, none⟩) (by dsimp only; omega)).trans b0.cell
    have cF := (hBW.cell (p := ⟨w.heap.size + 1, 0, none⟩) (by dsimp only; omega)).trans b1.cell
    have cN := bN.cell
    have fN := bN.frozen
    have HA := hide_ hall
    clear hmem hall
    cases hnr : namR r with
    | true =>
      have HN := hide_ (named_any r)
      rw [hnr] at HN
      have HNR := hide_ hnr
      clear hnr
      gi_wp2_with fail
      refine ⟨trivial, ?_⟩
      refine (CallsIn.inRound l (callsIn_wide.2 (HN.out _))).mono ?_
      rintro e w4 ⟨rfl, rfl⟩
      gi_wp2
      exact ⟨KeepsFrom.refl _ _, ⟨fun _ => rfl, (KeepsWalks.refl _)⟩, fun y hy => by
        rcases List.mem_append.1 hy with hy | hy
        · exact HA.out y hy
        · rw [List.mem_singleton.1 hy]; exact HNR.out, bN, hBW⟩
    | false =>
      have HN := hide_ (named_any r)
      rw [hnr] at HN
      have HNR := hide_ hnr
      clear hnr
      gi_wp2_with fail
      refine ⟨trivial, ?_⟩
      refine (CallsIn.inRound l (callsIn_wide.2 (HN.out _))).mono ?_
      rintro e w4 ⟨rfl, rfl⟩
      gi_wp2
      exact ⟨(KeepsOthers.setCell _ _ _).from _, pre, p, r, ⟨rfl, rfl, HNR.out, HA.out⟩, by rw [Int.natCast_add]; exact bN.set (.int .i64 ((i : Int) + (p : Int))), hBW.setCell (p := ⟨w.heap.size + 1 + 1, 0, none⟩) (Nat.le_refl _) _⟩
end Go.Proofs.YtmbofpeedjlfhaaDoor
