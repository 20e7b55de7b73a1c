/-
  The walks of Clone and Copy; two segments side by side.
-/
import Derived.Test.YtgppbdcnpailaaaSame
import Derived.Test.YtgppbdcnpailaaaMemBack
namespace Go.Proofs.Ytgppbdcnpailaaa
open Go.RowKit

section
variable {W : World} {B g d N c g' d' N' c' : Nat} {xs ys : List Int} {tv' : Value} {ex : List Ro}
theorem pair_swap (h : Seg W B g d N c xs (memRows g' d' N' c' false tv' [] ys ++ ex)) (h1 : IsSeg N') (h2 : ys.length = N') (h3 : bytesOk ys) : ∃ tv, Seg W B g' d' N' c' ys (memRows g d N c false tv [] xs ++ ex) := by
  obtain ⟨⟨tv, hO⟩, hb, _⟩ := h
  refine ⟨tv, ⟨tv', hO.swap ?_⟩, hb, h1, h2, h3⟩
  rw [← List.append_assoc, ← List.append_assoc]
  exact List.perm_append_comm.append_right ex
theorem Clone_off (h : Seg W B g d N c xs ex) :
    Calls Try.prog 48 #[.pointer (some ⟨g, 0, none⟩)] W fun e W' => ∃ g2 d2 c2 tv, e = .returned (.pointer (some ⟨g2, 0, none⟩)) ∧ Seg W' B g2 d2 N c2 xs (memRows g d N c false tv [] xs ++ ex) ∧ Below W.heap.size W W' := by
  obtain ⟨⟨tv, hO⟩, h2, h3, h4, h5⟩ := h
  have c0 : W.cell? ⟨g, 0, none⟩ = some (.slice (some ⟨d, 0, none⟩) N c) := hO.cell (i := 0) rfl rfl
  have hr : Reads W W.heap.size 1 (some ⟨d, 0, none⟩) N (u8s xs) := Reads.of_own (hO.at_ (i := 1) rfl)
  have hm := hide_ (made_any g d N c W c0 h3.pow.bd.1)
  have hc := hide_ (bytesClone_any (some ⟨d, 0, none⟩) N c xs W hr (by have := h3.bd; omega) (fun h => by cases h))
  have HN := hide_ h3.pow.bd
  have HO := hide_ hO
  have H4 := hide_ h4
  have H5 := hide_ h5
  clear hO hr h4 h5
  go_enter Try.func48, Try.ntmps48
  go_wp2_with (first
    | (go_at_call 76; refine hm.out.mono ?_; rintro e w' ⟨rfl, rfl⟩)
    | (go_at_call 74; refine hc.out.mono ?_))
  rintro e W' ⟨v, rfl, hown, hb⟩
  obtain ⟨o, co, rfl⟩ := ownsRow_some hown HN.out.1
  obtain ⟨h1, h6⟩ := seg_rows HO.out h2 hown hb
  have H1 := hide_ h1
  have H6 := hide_ h6
  clear h1 h6 hown hb
  go_wp2
  go_ret
  exact ⟨_, o, co, tv, rfl, ⟨⟨_, H1.out⟩, Nat.le_trans h2 H6.out.size, h3, H4.out, H5.out⟩, H6.out⟩
theorem Write_own (a : Int) (o n : Nat) (bs : List Int) (h : Seg W B g d N c xs (outR o n n bs :: ex)) (h0 : 0 ≤ a) (h1 : a ≤ 4294967295) (hn : n ≤ 4096) (hbl : bs.length = n) (hok : bytesOk bs) :
    Calls Try.prog 42 #[.pointer (some ⟨g, 0, none⟩), .int .u32 a, .slice (some ⟨o, 0, none⟩) n n] W fun e W' => e = .returned (.int .i64 0) ∧ Seg W' B g d N c (puts N a bs xs n) (outR o n n bs :: ex) ∧ Below B W W' := by
  obtain ⟨⟨tv, hO⟩, h2, h3, h4, h5⟩ := h
  have hm := hide_ (made_any g d N c W (hO.cell (i := 0) rfl rfl) h3.pow.bd.1)
  have hw := hide_ (write_any (W := W) a (some ⟨o, 0, none⟩) n n bs hO h2 h3.pow h4 h0 h1 hbl hn (fun W1 _ _ _ ex' hO1 _ => Reads.of_own (hO1.1 (outR o n n bs) (by simp))))
  have d1 : decide ((4096 : Int) < (n : Int)) = false := by simp; omega
  have H4 := hide_ h4
  have H5 := hide_ h5
  clear hO h4 h5
  go_enter Try.func42, Try.ntmps42
  go_wp2_with (first
    | (go_at_call 76; refine hm.out.mono ?_; rintro e w' ⟨rfl, rfl⟩)
    | (go_at_call 79; refine hw.out.mono ?_; rintro e w4 ⟨rfl, tv4, hO4, hb4⟩))
  go_ret
  rw [notes_off] at hO4
  exact ⟨rfl, ⟨⟨tv4, hO4⟩, Nat.le_trans h2 hb4.size, h3, by rw [puts_len, H4.out], puts_ok hok H5.out _⟩, hb4⟩
theorem Copy_off (a f : Int) (n : Nat) (h : Seg W B g d N c xs ex) (a0 : 0 ≤ a) (a1 : a ≤ 4294967295) (f0 : 0 ≤ f) (f1 : f ≤ 4294967295) (hn : n ≤ 4096) :
    Calls Try.prog 44 #[.pointer (some ⟨g, 0, none⟩), .int .u32 a, .int .u32 f, .int .u32 n] W fun e W' => e = .returned (.int .i64 0) ∧ Seg W' B g d N c (puts N a (readN N f xs n) xs n) ex ∧ Below B W W' := by
  obtain ⟨⟨tv, hO⟩, h2, h3, h4, h5⟩ := h
  have hm := hide_ (made_any g d N c W (hO.cell (i := 0) rfl rfl) h3.pow.bd.1)
  have hr := hide_ (read_any (W := W) f n hO h2 h3.pow h4 f0 f1 hn)
  have hw := hide_ (fun (W1 : World) (o : Nat) (tv1 : Value) (hO1 : Owns W1 B (memRows g d N c false tv1 (notes N false false f [] n) xs ++ (outR o n n (readN N f xs n) :: ex))) (hb1 : Below B W W1) =>
    write_any (W := W1) a (some ⟨o, 0, none⟩) n n (readN N f xs n) hO1 (Nat.le_trans h2 hb1.size) h3.pow h4 a0 a1 (readN_len _ _ _ _) hn (fun W2 _ _ _ ex' hO2 _ => Reads.of_own (hO2.1 (outR o n n (readN N f xs n)) (by simp))))
  have d1 : decide ((4096 : Int) < (n : Int)) = false := by simp; omega
  have H4 := hide_ h4
  have H5 := hide_ h5
  clear hO h4 h5
  go_enter Try.func44, Try.ntmps44
  go_wp2_with (first
    | (go_at_call 76; refine hm.out.mono ?_; rintro e w' ⟨rfl, rfl⟩)
    | (go_at_call 80; refine hr.out.mono ?_; rintro e w3 ⟨o, tv3, rfl, hO3, hb3⟩)
    | (go_at_call 79; refine (hw.out _ _ _ hO3 hb3).mono ?_; rintro e w4 ⟨rfl, tv4, hO4, hb4⟩))
  go_ret
  rw [notes_off, notes_off] at hO4
  exact ⟨rfl, ⟨⟨tv4, hO4.sub ((List.Sublist.refl _).append (.cons _ (.refl _)))⟩, Nat.le_trans h2 (Nat.le_trans hb3.size hb4.size), h3, by rw [puts_len, H4.out], puts_ok (readN_ok H5.out _) H5.out _⟩, hb3.trans hb4⟩
theorem Copy_big (a f : Int) (n : Int) (h : Seg W B g d N c xs ex) (hn : 4096 < n) :
    Calls Try.prog 44 #[.pointer (some ⟨g, 0, none⟩), .int .u32 a, .int .u32 f, .int .u32 n] W fun e W' => e = .returned (.int .i64 92) ∧ W' = W := by
  obtain ⟨⟨tv, hO⟩, h2, h3, h4, h5⟩ := h
  have hm := hide_ (made_any g d N c W (hO.cell (i := 0) rfl rfl) h3.pow.bd.1)
  have d1 : decide ((4096 : Int) < n) = true := by simp; omega
  clear hO h4 h5 hn
  go_enter Try.func44, Try.ntmps44
  go_wp2_with (go_at_call 76; refine hm.out.mono ?_; rintro e w' ⟨rfl, rfl⟩)
  go_ret
  exact ⟨rfl, rfl⟩
end
end Go.Proofs.Ytgppbdcnpailaaa
