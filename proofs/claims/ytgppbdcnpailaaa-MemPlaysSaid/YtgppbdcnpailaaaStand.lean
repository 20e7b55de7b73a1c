/-
  The walk of playpenlaw09's stand.
-/
import Derived.Test.YtgppbdcnpailaaaStep
namespace Go.Proofs.Ytgppbdcnpailaaa
open Go.RowKit
set_option linter.unusedVariables false
set_option linter.unusedSimpArgs false

section
variable {W : World} {B q k : Nat} {st : WS} {ex : List Ro}
set_option maxRecDepth 100000 in
set_option maxHeartbeats 2000000 in
theorem stand_any (h : Inv W B q k st ex) :
    Calls Try.prog 53 #[.pointer (some ⟨q, 0, none⟩)] W fun e W' => e = .returned (.bool true) ∧ Below W.heap.size W W' := by
  have H := hide_ h
  clear h
  have he := rptr_eq
  have hm := mptr_eq
  go_enter Try.func53, Try.ntmps53
  go_wp2
  go_loopw [3] (fun i wr => ∃ j : Nat, j ≤ 4 ∧ i = .int .i64 j ∧ Below W.heap.size W wr) (fun i _ => 4 - (intOf i).toNat)
  case atStart => exact ⟨0, Nat.zero_le _, rfl, Below.refl _ _⟩
  case round =>
    obtain ⟨j, hj, rfl, hb⟩ := hrel
    by_cases hlt : j < 4
    · have d1 : decide ((j : Int) < 4) = true := by simp; omega
      have i0 : (0 : Int) ≤ (j : Int) := by omega
      have i1 : (j : Int) < 4 := by omega
      have hI := H.out.below hb
      obtain ⟨s, hs⟩ := slot_some hI.len hlt
      obtain ⟨t1, t2, t3⟩ := hI.cells hs
      have HB := hide_ hb
      have HK : Hid (∀ W2, Below wr.heap.size wr W2 → W2.cell? ⟨q, j, none⟩ = some (.pointer (mA s)) ∧ W2.cell? ⟨q, 4 + j, none⟩ = some (.pointer (rA s)) ∧ Below wr.heap.size wr W2) := hide_ fun W2 h2 => by
        obtain ⟨u1, u2, _⟩ := (hI.below h2).cells hs
        exact ⟨u1, u2, h2⟩
      cases s with
      | none =>
        have H1 := hide_ (fun (W2 : World) => Bytes_not (W := W2) (P := none) (.inl rfl))
        have H2 := hide_ (fun (W2 : World) => rAll_nil W2)
        have H3 : Hid (∀ W2 : World, Calls Try.prog 32 #[.slice none 0 0, .slice none 0 0] W2 fun e w' => e = .returned (.bool true) ∧ ∃ nq, w' = W2.drewN nq) := hide_ (fun W2 => (SameBytes_any none none 0 0 0 0 [] [] W2.heap.size W2 Reads.none_ Reads.none_ (by simp [maxLen]) (by simp [maxLen])).mono fun e w' h => ⟨by rw [h.1]; simp, h.2⟩)
        simp only [mA, rA] at t1 t2 HK
        clear hb hI hs
        go_wp2
        go_region_held3 (fun W' => W'.cell? ⟨q, j, none⟩ = some (.pointer none) ∧ W'.cell? ⟨q, 4 + j, none⟩ = some (.pointer none) ∧ Below wr.heap.size wr W')
          (first | exact HK.out _ (Below.refl _ _).drew | exact HK.out _ HB9.out | exact HK.out _ (below_draws2 HB9.out _))
          ((first
            | (go_at_call 33; go_split_ands; refine (H1.out _).mono ?_; rintro e w9 ⟨rfl, hb9⟩; have hbq : Below wr.heap.size wr w9 := bst (by assumption) hb9; have HB9 := hide_ hbq; clear hb9 hbq)
            | (go_at_call 87; refine (H2.out _).mono ?_; rintro e w8 ⟨rfl, hw8⟩; subst w8)
            | (go_at_call 32; refine (H3.out _).mono ?_; rintro e w7 ⟨rfl, nq, rfl⟩)))
        go_wp2
        go_roundw
        case rel => exact ⟨j + 1, by omega, by go_num, below_draws2 (HB.out.trans (HB9.out.mono HB.out.size)) nq⟩
        case measure => simp [intOf]; omega
      | some sv =>
        have hok : SegOk sv := hI.ok _ (List.mem_of_getElem? hs)
        have hseg : ∀ W2, Below wr.heap.size wr W2 → Owns W2 B (memRows sv.g sv.d sv.N sv.c sv.on sv.tv sv.ts sv.xs ++ refRows sv.r sv.b sv.N sv.rc sv.on sv.lv sv.ts sv.xs) := fun W2 h2 => by
          have h3 := (hI.below h2).own
          obtain ⟨rest, hrest⟩ := rows_at (S := st.S) hI.len hlt
          refine h3.pick (wHeadL q (ptrs st.S) st.gv st.kv st.nv st.wv st.G st.T ++ (st.G.flatMap ansRows ++ (st.T.flatMap noteRows ++ (rest ++ ex)))) fun cnt one e1 e2 e3 => ?_
          have := (hrest cnt one e1 e2 e3).1 _ hs
          simp only [slotRows, segRows, e1] at this
          simp only [e1, e2, e3]
          omega
        obtain ⟨g, d, c, r, bb, rc, N, on, tv, lv, ts, xs⟩ := sv
        obtain ⟨k1, k2, k3, k4⟩ := hok
        simp only at k1 k2 k3 k4 hseg
        have hN16 := k1.bd.2
        have H1 := hide_ (fun (W2 : World) (h2 : Below wr.heap.size wr W2) => Bytes_any (W := W2) (hseg W2 h2) k1.pow)
        have H2 := hide_ (fun (W2 : World) (h2 : Below wr.heap.size wr W2) => rAll_any (W := W2) (ex := memRows g d N c on tv ts xs) (show Owns W2 B (refRows r bb N rc on lv ts xs ++ memRows g d N c on tv ts xs) from (hseg W2 h2).perm fun cnt one e1 e2 e3 => by simp only [e1]; omega) (by omega))
        simp only [mA, rA] at t1 t2 HK
        clear hb hI hs k1 k2 k3 k4 hseg
        go_wp2
        go_region_held3 (fun W' => W'.cell? ⟨q, j, none⟩ = some (.pointer (some ⟨g, 0, none⟩)) ∧ W'.cell? ⟨q, 4 + j, none⟩ = some (.pointer (some ⟨r, 0, none⟩)) ∧ Below wr.heap.size wr W')
          (first | exact HK.out _ (Below.refl _ _).drew | exact HK.out _ HB9.out | exact HK.out _ HB8.out | exact HK.out _ (below_draws2 HB8.out _))
          ((first
            | (go_at_call 33; go_split_ands; refine (H1.out _ (by assumption)).mono ?_; rintro e w9 ⟨o, co, rfl, hown9, hb9⟩; have hbq : Below wr.heap.size wr w9 := bst (by assumption) hb9; have HB9 := hide_ hbq; have HR9 := hide_ (Reads.of_own hown9); clear hb9 hbq hown9)
            | (go_at_call 87; refine (H2.out _ HB9.out).mono ?_; rintro e w8 ⟨A8, c8, rfl, hown8, hb8⟩; have hbq : Below wr.heap.size wr w8 := bst HB9.out hb8; have HB8 := hide_ hbq; have HS8 : Hid (Calls Try.prog 32 #[.slice (some ⟨o, 0, none⟩) N co, .slice A8 N c8] w8 fun e w' => e = .returned (.bool true) ∧ ∃ nq, w' = w8.drewN nq) := hide_ ((SameBytes_any (some ⟨o, 0, none⟩) A8 N co N c8 xs xs _ w8 ((HR9.out.below hb8).more hb8.size) (Reads.of_own hown8) (by simp only [maxLen]; omega) (by simp only [maxLen]; omega)).mono fun e w' h => ⟨by rw [h.1]; simp, h.2⟩); clear hb8 hbq hown8)
            | (go_at_call 32; refine HS8.out.mono ?_; rintro e w7 ⟨rfl, nq, rfl⟩)))
        go_wp2
        go_roundw
        case rel => exact ⟨j + 1, by omega, by go_num, below_draws2 (HB.out.trans (HB8.out.mono HB.out.size)) nq⟩
        case measure => simp [intOf]; omega
    · obtain rfl : j = 4 := by omega
      have HB := hide_ hb
      clear hb
      go_wp2
      go_ret
      exact ⟨rfl, HB.out⟩
end
end Go.Proofs.Ytgppbdcnpailaaa
