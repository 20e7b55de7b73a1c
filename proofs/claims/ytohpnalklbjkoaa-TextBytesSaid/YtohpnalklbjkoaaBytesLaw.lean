/-
  The walk of the statement TextBytes.
-/
import Derived.Test.YtohpnalklbjkoaaBytesR
import Derived.Test.YtohpnalklbjkoaaApart
namespace Go.Proofs.Ytohpnalklbjkoaa
open Go.RowKit Go.PlainAid Go.Shelf

theorem bytesAt_len (s : ByteArray) : ∀ f i, ((bytesAt s f i).1.getD []).length ≤ s.size + 6 - i := by
  intro f
  induction f with
  | zero => intro i; simp [bytesAt]
  | succ f ih =>
    intro i
    unfold bytesAt
    split
    · simp
    · split
      · split <;> simp
      · split
        · simp
        · next h1 h2 h3 =>
          obtain ⟨k1, k6, hzl, _⟩ := sayN_good s i (by omega) (by simpa using h3)
          have := ih (i + (sayN s i).2.2.1)
          unfold addTo
          generalize bytesAt s f (i + (sayN s i).2.2.1) = x at this
          obtain ⟨o, a, e⟩ := x
          cases o with
          | none => simp
          | some l =>
            simp only [Option.map_some, Option.getD_some, List.length_append] at this ⊢
            omega
theorem bytesN_len (s : ByteArray) : ((bytesN s).1.getD []).length ≤ s.size + 6 := by
  unfold bytesN
  split
  · simp
  · split
    · simp
    · have := bytesAt_len s s.size 1
      omega
theorem tb_form (s : ByteArray) (hs : s.size ≤ 140737488351232) : ∃ (n : Nat) (L : List Int) (p er : Int), L.length = n ∧ n ≤ 140737488351238 ∧
    (∀ W, Calls Try.prog 26 #[.string s] W fun e w' => ∃ A c, e = .returned (.tuple #[.slice A n c, .int .i64 p, .int .i64 er]) ∧ w'.ownsRow W.heap.size 5 1 (.slice A n c) n (u8s L) ∧ Below W.heap.size W w') ∧
    (∀ W, Calls Try.prog 25 #[.string s] W fun e w' => ∃ A c, e = .returned (.tuple #[.slice A n c, .int .i64 p, .int .i64 er]) ∧ w'.ownsRow W.heap.size 5 1 (.slice A n c) n (u8s L) ∧ Below W.heap.size W w') := by
  have hl := bytesN_len s
  refine ⟨_, (bytesN s).1.getD [], (bytesN s).2.1, (bytesN s).2.2, rfl, by omega, fun W => ?_, fun W => ?_⟩
  · refine (tbytes_any s W hs).mono ?_
    rintro e w' ⟨v, rfl, ho, hb⟩
    obtain ⟨A, c, rfl, _, _⟩ := ownsRow_slice ho
    exact ⟨A, c, rfl, ho, hb⟩
  · refine (rbytes_any s W hs).mono ?_
    rintro e w' ⟨v, rfl, ho, hb⟩
    obtain ⟨A, c, rfl, _, _⟩ := ownsRow_slice ho
    exact ⟨A, c, rfl, ho, hb⟩
theorem below_drewN {B : Nat} {a w : World} (h : Below B a w) (k : Nat) : Below B a (w.drewN k) := by
  induction k with
  | zero => exact h
  | succ k ih => exact ih.drew
theorem drewN_size (w : World) (k : Nat) : (w.drewN k).heap.size = w.heap.size := rfl
/-- the same list, told twice -/
theorem same_any {A A' : Option Addr} {n c c' : Nat} {L : List Int} {B : Nat} {w : World} (hl : L.length = n) (hn : n ≤ 140737488351238) (ha : Reads w B 1 A n (u8s L)) (hb : Reads w B 1 A' n (u8s L)) :
    Calls Try.prog 27 #[.slice A n c, .slice A' n c'] w fun e w' => e = .returned (.bool true) ∧ ∃ nq, w' = w.drewN nq := by
  refine (SameBytes_any A A' n c n c' L L B w ha hb (by unfold maxLen; omega) (by unfold maxLen; omega)).mono ?_
  rintro e w' ⟨rfl, nq, rfl⟩
  exact ⟨by simp, nq, rfl⟩
def three {α : Type} (a b c : α) : Nat → α
  | 0 => a
  | 1 => b
  | _ => c

set_option maxRecDepth 100000 in
set_option maxHeartbeats 1000000 in
theorem TextBytes_walk (s t : ByteArray) (w : World) (hs : s.size ≤ 140737488351232) (ht : t.size ≤ 140737488351232) :
    Calls Try.prog 8 #[.string s, .string t] w fun e w' => e = .returned (.bool true) ∧ Below w.heap.size w w' := by
  obtain ⟨n, L, p, er, hL, hn, hT, hR⟩ := tb_form s hs
  obtain ⟨n', L', p', er', hL', hn', hT', hR'⟩ := tb_form t ht
  have HT := hide_ hT
  have HR := hide_ hR
  have HT' := hide_ hT'
  have HR' := hide_ hR'
  have HL := hide_ hL
  have HL' := hide_ hL'
  clear hT hR hT' hR' hs ht hL hL'
  go_enter Try.func8, Try.ntmps8
  go_wp2_with (go_at_call 25; refine (HR.out _).mono ?_)
  rintro e w1 ⟨A1, c1, rfl, ho1, hb1⟩
  have hr1 := Reads.of_own ho1
  have HB1 := hide_ hb1
  clear ho1 hb1
  go_wp2_with (go_at_call 26; refine (HT.out _).mono ?_)
  rintro e w2 ⟨A2, c2, rfl, ho2, hb2⟩
  have HB2 := hide_ hb2
  have HR1 := hide_ hr1
  have HO2 := hide_ (show Owns w2 w1.heap.size [⟨5, 1, .slice A2 n c2, n, u8s L⟩] from one_row ho2)
  have hs2 := hide_ (same_any (c := c2) (c' := c1) HL.out hn (Reads.of_own ho2) ((hr1.below hb2).more hb2.size))
  clear ho2 hb2 hr1
  go_wp2_with (go_at_call 27; refine hs2.out.mono ?_; rintro e w ⟨rfl, nq, rfl⟩)
  refine (HT.out _).mono ?_
  rintro e w4 ⟨A4, c4, rfl, ho4, hb4⟩
  have HO4 := hide_ (((HO2.out).drewN nq).push hb4 (r := ⟨5, 1, .slice A4 n c4, n, u8s L⟩) ho4 HB2.out.size)
  have hB4 : Below w1.heap.size w1 w4 := (below_drewN HB2.out nq).trans (hb4.mono HB2.out.size)
  have HB4 := hide_ hB4
  have hs4 := hide_ (same_any (c := c4) (c' := c1) HL.out hn (Reads.of_own ho4) ((HR1.out.below hB4).more hB4.size))
  clear ho4 hb4 hB4
  go_wp2_with (go_at_call 27; refine hs4.out.mono ?_; rintro e w ⟨rfl, nq4, rfl⟩)
  refine (HT'.out _).mono ?_
  rintro e w6 ⟨A6, c6, rfl, ho6, hb6⟩
  have HO6 := hide_ (((HO4.out).drewN nq4).push hb6 (r := ⟨5, 1, .slice A6 n' c6, n', u8s L'⟩) ho6 HB4.out.size)
  have hB6 : Below w1.heap.size w1 w6 := (below_drewN HB4.out nq4).trans (hb6.mono HB4.out.size)
  have HB6 := hide_ hB6
  have HR6 := hide_ (Reads.of_own ho6)
  clear ho6 hb6 hB6
  go_wp2_with (go_at_call 25; refine (HR'.out _).mono ?_)
  rintro e w7 ⟨A7, c7, rfl, ho7, hb7⟩
  have HO7 := hide_ (HO6.out.below hb7)
  have hB7 : Below w1.heap.size w1 w7 := HB6.out.trans (hb7.mono HB6.out.size)
  have HB7 := hide_ hB7
  have hs7 := hide_ (same_any (c := c6) (c' := c7) HL'.out hn' ((HR6.out.below hb7).more hb7.size) (Reads.of_own ho7))
  clear ho7 hb7 hB7
  go_wp2_with (go_at_call 27; refine hs7.out.mono ?_; rintro e w ⟨rfl, nq7, rfl⟩)
  have hO8 := hide_ (show Owns ((w7.drewN nq7).alloc (.cells #[.slice A2 n c2, .slice A4 n c4, .slice A6 n' c6] 31)) w1.heap.size (rowsF 3 (rowB (three (.slice A2 n c2) (.slice A4 n c4) (.slice A6 n' c6)) (three n n n') (three L L L')) ++ [lsRow w7.heap.size 3 (three (.slice A2 n c2) (.slice A4 n c4) (.slice A6 n' c6))])
    from (HO7.out.drewN nq7).box 31 #[.slice A2 n c2, .slice A4 n c4, .slice A6 n' c6] HB7.out.size (show 3 ≤ maxLen by unfold maxLen; decide))
  have hB8 : Below w1.heap.size w1 ((w7.drewN nq7).alloc (.cells #[.slice A2 n c2, .slice A4 n c4, .slice A6 n' c6] 31)) := (below_drewN HB7.out nq7).alloc HB7.out.size _
  have HB8 := hide_ hB8
  have hl3 : ∀ j, j < 3 → (three L L L' j).length = three n n n' j := by
    intro j hj
    match j, hj with
    | 0, _ => exact HL.out
    | 1, _ => exact HL.out
    | 2, _ => exact HL'.out
  have hn3 : ∀ j, j < 3 → three n n n' j ≤ 140737488355264 := by
    intro j hj
    match j, hj with
    | 0, _ => exact Nat.le_trans hn (by omega)
    | 1, _ => exact Nat.le_trans hn (by omega)
    | 2, _ => exact Nat.le_trans hn' (by omega)
  refine (Apart_any 3 w7.heap.size w1.heap.size _ _ _ _ hO8.out hl3 hB8.size hn3 (by omega)).mono ?_
  rintro e w9 ⟨rfl, hb9⟩
  have HB9 := hide_ (HB8.out.trans hb9)
  clear hb9 hB8 hl3 hn3
  go_wp2_with (go_at_call 26; refine (HT.out _).mono ?_)
  rintro e w10 ⟨A10, c10, rfl, ho10, hb10⟩
  have hB10 : Below w1.heap.size w1 w10 := HB9.out.trans (hb10.mono HB9.out.size)
  have hs10 := hide_ (same_any (c := c10) (c' := c1) HL.out hn (Reads.of_own ho10) ((HR1.out.below (hb10.mono HB9.out.size |> HB9.out.trans |> fun h => h)).more hB10.size))
  have HB10 := hide_ hB10
  clear ho10 hb10 hB10
  go_wp2_with (go_at_call 27; refine hs10.out.mono ?_; rintro e w ⟨rfl, nq10, rfl⟩)
  go_ret
  exact ⟨rfl, below_drewN (HB1.out.trans (HB10.out.mono HB1.out.size)) nq10⟩
end Go.Proofs.Ytohpnalklbjkoaa
