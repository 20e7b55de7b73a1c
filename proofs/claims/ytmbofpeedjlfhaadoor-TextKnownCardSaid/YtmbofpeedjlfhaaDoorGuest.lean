/-
  The walk of text.Guest.
-/
import Derived.Test.YtmbofpeedjlfhaaDoorBldRune
namespace Go.Proofs.YtmbofpeedjlfhaaDoor
open Go.RowKit Go.PlainAid Go.Shelf
attribute [local go_sem] Oper.semAt_some

/-- may the rune be told? -/
def printedZ (r : Int) : Bool := decide (r = 10 ∨ (32 ≤ r ∧ (r < 127 ∨ 159 < r)))
def guestB (x : Nat × Int) : List Int := if printedZ x.2 then Lib.encodeRuneZ x.2 else [63]
/-- the text as it may be told -/
def guestL (S : ByteArray) : List Int := (cuts S).flatMap guestB
theorem encZ_byte (r : Int) : ∀ x ∈ Lib.encodeRuneZ r, isByte x := by
  intro x hx
  unfold Lib.encodeRuneZ at hx
  repeat' split at hx
  all_goals
    simp only [List.mem_cons, List.not_mem_nil, or_false] at hx
    unfold isByte
    omega
theorem guestL_byte (S : ByteArray) : ∀ x ∈ guestL S, isByte x := by
  intro x hx
  obtain ⟨c, _, hx⟩ := List.mem_flatMap.1 hx
  unfold guestB at hx
  split at hx
  · exact encZ_byte _ x hx
  · rw [List.mem_singleton.1 hx]; unfold isByte; omega
theorem encZ_len (r : Int) : (Lib.encodeRuneZ r).length ≤ 4 := by
  have := (Lib.runeCells_le r).2
  simpa [Lib.runeCells] using this
theorem guestB_len (x : Nat × Int) : (guestB x).length ≤ 4 := by
  unfold guestB
  split
  · exact encZ_len _
  · simp
theorem guest_len (l : List (Nat × Int)) : (l.flatMap guestB).length ≤ 4 * l.length := by
  induction l with
  | nil => simp
  | cons x l ih =>
    have := guestB_len x
    rw [List.flatMap_cons]
    simp only [List.length_append, List.length_cons]
    omega
theorem printed_any (r : Int) (w : World) : Calls Tryd.prog 45 #[.int .i32 r] w fun e w' => e = .returned (.bool (printedZ r)) ∧ w = w' := by
  rcases (show r = 10 ∨ (r < 32 ∧ r ≠ 10) ∨ (32 ≤ r ∧ r < 127) ∨ (127 ≤ r ∧ r ≤ 159) ∨ 159 < r by omega) with h | ⟨h, g⟩ | ⟨h, g⟩ | ⟨h, g⟩ | h
  · subst h
    go_enter Tryd.func45, Tryd.ntmps45
    go_wp2
    go_ret
    exact ⟨rfl, rfl⟩
  · have e : printedZ r = false := by unfold printedZ; simp; omega
    have d0 : (r == 10) = false := by rw [beq_eq_false_iff_ne]; exact g
    have d1 : decide (32 ≤ r) = false := by simp; omega
    rw [e]
    clear h g e
    go_enter Tryd.func45, Tryd.ntmps45
    go_wp2
    go_ret
    exact ⟨rfl, rfl⟩
  · have e : printedZ r = true := by unfold printedZ; simp; omega
    have d0 : (r == 10) = false := by rw [beq_eq_false_iff_ne]; omega
    have d1 : decide (32 ≤ r) = true := by simpa using h
    have d2 : decide (r < 127) = true := by simpa using g
    rw [e]
    clear h g e
    go_enter Tryd.func45, Tryd.ntmps45
    go_wp2
    go_ret
    exact ⟨rfl, rfl⟩
  · have e : printedZ r = false := by unfold printedZ; simp; omega
    have d0 : (r == 10) = false := by rw [beq_eq_false_iff_ne]; omega
    have d1 : decide (32 ≤ r) = true := by simp; omega
    have d2 : decide (r < 127) = false := by simp; omega
    have d3 : decide (159 < r) = false := by simp; omega
    rw [e]
    clear h g e
    go_enter Tryd.func45, Tryd.ntmps45
    go_wp2
    go_ret
    exact ⟨rfl, rfl⟩
  · have e : printedZ r = true := by unfold printedZ; simp; omega
    have d0 : (r == 10) = false := by rw [beq_eq_false_iff_ne]; omega
    have d1 : decide (32 ≤ r) = true := by simp; omega
    have d2 : decide (r < 127) = false := by simp; omega
    have d3 : decide (159 < r) = true := by simpa using h
    rw [e]
    clear h e
    go_enter Tryd.func45, Tryd.ntmps45
    go_wp2
    go_ret
    exact ⟨rfl, rfl⟩
theorem ownFrom_false {β : Type} (B : Nat) : OwnFrom B (fun (_ : β) (_ : World) => False) := fun _ _ _ _ h _ _ => h
set_option maxRecDepth 100000 in
set_option maxHeartbeats 1000000 in
theorem tGuest_any (A : Option Addr) (n c : Nat) (xs : List Int) (B : Nat) (w : World) (ha : Reads w B 1 A n (u8s xs)) (hn : n ≤ 4194304) (hx : ∀ x ∈ xs, isByte x) :
    Calls Tryd.prog 26 #[.slice A n c] w fun e w' => e = .returned (.string (strOfNums (guestL (strOfNums (upTo xs))))) ∧ Below w.heap.size w w' := by
  have la : xs.length = n := by simpa using ha.1
  have hcv := run_str_of_reads (P := Tryd.prog) w B 51 5 Tryd.underlying51 Tryd.underlying5 A n c xs ha 9 Tryd.underlying9
  have hcut := fun W => Cut_nought xs W hx (by omega)
  have hVs := strOfNums_size (upTo xs)
  have hul := upTo_len xs
  obtain ⟨S, hS⟩ : ∃ S, S = strOfNums xs := ⟨_, rfl⟩
  obtain ⟨V, hV⟩ : ∃ V, V = strOfNums (upTo xs) := ⟨_, rfl⟩
  simp only [← hS, ← hV] at hcut
  rw [← hS] at hcv
  rw [← hV] at hVs ⊢
  have hcl := cutsAt_len V 0
  rw [← cuts_at] at hcl
  have HC := hide_ hcut
  have hVn : V.size ≤ 4194304 := by omega
  clear hcut hS hV hul la hVs
  refine (callsIn_wide (n := 30)).1 ?_
  refine callsIn_of_wp_marks Tryd.func26 rfl trivial ?_ rfl
  simp only [Tryd.ntmps26, List.size_toArray, List.length_cons, List.length_nil, Nat.reduceAdd, Nat.reduceSub, Array.replicate_succ, Array.replicate_zero, List.push_toArray, List.append_toArray, List.nil_append, List.cons_append]
  gi_wp2_with fail
  refine ⟨trivial, ?_⟩
  refine (callsIn_wide.2 (HC.out _)).mono ?_
  rintro e w2 ⟨u, bb, rfl, nq, rfl⟩
  obtain ⟨W0, hW0⟩ : ∃ W0, W0 = w.drewN nq := ⟨_, rfl⟩
  have HS0 := hide_ (show W0.heap.size = w.heap.size by rw [hW0]; rfl)
  have hb0 : Below w.heap.size w W0 := by rw [hW0]; exact ⟨rfl, rfl, rfl, Nat.le_refl _, fun _ _ => rfl⟩
  rw [← hW0]
  clear hW0 hcv
  gi_wp2_with fail
  refine ⟨trivial, ?_⟩
  refine (callsIn_wide.2 (cutting_any V _)).mono ?_
  rintro e w2 ⟨rfl, rfl⟩
  gi_wp2_with fail
  have hI0 := (Lib.IsBuilderF.of (Lib.fresh_isBuilder 64 5 W0)).alloc (.cells #[.string V] 9)
  have b1 := Blk.new (W0.alloc (.cells #[.pointer none, .slice none 0 0] 64)) 9 #[.string V]
  simp only [World.size_alloc] at b1
  have hB3 : Below W0.heap.size W0 ((W0.alloc (.cells #[.pointer none, .slice none 0 0] 64)).alloc (.cells #[.string V] 9)) := ((Below.refl _ W0).alloc (Nat.le_refl _) _).alloc (by simp) _
  have hsz : ((W0.alloc (.cells #[.pointer none, .slice none 0 0] 64)).alloc (.cells #[.string V] 9)).heap.size = W0.heap.size + 1 + 1 := by simp
  obtain ⟨w3, hw3⟩ : ∃ w3, (W0.alloc (.cells #[.pointer none, .slice none 0 0] 64)).alloc (.cells #[.string V] 9) = w3 := ⟨_, rfl⟩
  rw [hw3] at hI0 b1 hB3 hsz ⊢
  clear hw3
  have HSZ := hide_ hsz
  have hnb : W0.heap.size + 1 < w3.heap.size := by omega
  clear hsz
  refine rangeB (Bn := W0.heap.size + 1) (s := V) (P' := 18) (Q' := 8) (by omega) rfl (by omega) (b1.cell 0)
    (fun pre W => Lib.IsBuilderF 64 5 W0.heap.size W0.heap.size (u8s (pre.flatMap guestB)) W ∧ (W.heap[W0.heap.size + 1]? = some (.cells #[.string V] 9 (0, 0)) ∧ Below W0.heap.size W0 W))
    (fun _ _ _ => False)
    (OwnFrom.and (Own.from (builder_own _ _ _ _ _) _) (OwnFrom.and (ownFrom_obj (by omega)) (ownFrom_below (by omega) (by omega))))
    (fun c => ownFrom_false _)
    ⟨hI0, b1, hB3⟩ ?assign1 ?body1 ?done1 ?stop1
  case assign1 =>
    intro l x W K hK
    simp only [updA, List.setIfInBounds_toArray, List.set_cons_succ, List.set_cons_zero] at hK ⊢
    gi_wp2
    exact hK
  case stop1 =>
    rintro D c pre W hD hS h hk
    exact h.elim
  case done1 =>
    rintro D W hD ⟨hI, hbx, hBW⟩ hkD
    have hcell := b8s_cells (guestL V) (guestL_byte V)
    have hI2 : Lib.IsBuilderF 64 5 W0.heap.size W0.heap.size (Lib.byteCells (b8s (guestL V))) W := by rw [← hcell]; exact hI
    have hstr := fun W h g => Tryd.Builder_String_any_k W0.heap.size W0.heap.size (b8s (guestL V)) W h g
    obtain ⟨R, hR⟩ : ∃ R, R = strOfNums (guestL V) := ⟨_, rfl⟩
    have eR : (ByteArray.mk (b8s (guestL V)).toArray) = R := by rw [hR]; rfl
    rw [eR] at hstr
    have HR := hide_ hR
    have HSTR := hide_ hstr
    have HI := hide_ hI2
    have hWs := hBW.size
    clear hstr hI2 hI hcell eR hR
    gi_wp2_with fail
    refine ⟨trivial, ?_⟩
    refine (callsIn_wide.2 (HSTR.out _ HI.out hWs)).mono ?_
    rintro e W2 ⟨rfl, _, hb2, hk2⟩
    have hkE : W2.heap[D]? = some (.deferred (some [])) := by
      obtain ⟨cs, t, fz, hbb⟩ := isBuilder_at HI.out
      exact hk2 D _ hkD (fun e => by cases e; rw [hbb] at hkD; cases hkD) (fun c f e => by cases e)
    gi_wp2
    refine ⟨by simp, .inl ⟨_, _, rfl, run_takeDeferred hkE, ?_⟩⟩
    have hs0 := HS0.out
    exact ⟨.string (strOfNums (guestL V)), by rw [← HR.out]; simp [results, Tryd.results26, go_sem], rfl, ((hb0.trans ((hBW.trans hb2).mono (by omega)))).trans (belowK_b (n₀ := w.heap.size) (w := w) (Nat.le_refl _) _ D _ _ (by omega) hkE rfl rfl)⟩
  case body1 =>
    rintro l pre ⟨p, r⟩ W hmem hl hr ⟨hI, hbx, hBW⟩ hlen
    simp only [updA, List.setIfInBounds_toArray, List.set_cons_succ, List.set_cons_zero]
    have hrr : r = cutR V p := (cuts_mem V _ hmem).2
    have hbd := cutR_bd V p
    rw [← hrr] at hbd
    have hgl := guest_len pre
    have hWs := hBW.size
    have hbx2 := isBuilder_at hI
    have hGB : u8s ((pre ++ [(p, r)]).flatMap guestB) = u8s (pre.flatMap guestB) ++ u8s (guestB (p, r)) := by rw [List.flatMap_append, u8s_app]; simp
    obtain ⟨L, hL⟩ : ∃ L, L = u8s (pre.flatMap guestB) := ⟨_, rfl⟩
    have hLl : L.length ≤ 4 * pre.length := by rw [hL]; simpa using hgl
    rw [← hL] at hI hGB
    have hprt := fun W => printed_any r W
    have hG1 : guestB (p, r) = if printedZ r then Lib.encodeRuneZ r else [63] := rfl
    obtain ⟨q, hq⟩ : ∃ q, q = printedZ r := ⟨_, rfl⟩
    simp only [← hq] at hprt
    rw [← hq] at hG1
    have HPR := hide_ hprt
    have HGB := hide_ hGB
    have HI := hide_ hI
    have HBX := hide_ hbx
    have HBX2 := hide_ hbx2
    clear hprt hGB hI hL hgl hrr hmem hbx hbx2 hq
    cases q with
    | true =>
      rw [if_pos rfl] at hG1
      have HG1 := hide_ hG1
      clear hG1
      gi_wp2_with fail
      refine ⟨trivial, ?_⟩
      refine (CallsIn.inRound l (callsIn_wide.2 (HPR.out _))).mono ?_
      rintro e w4 ⟨rfl, rfl⟩
      gi_wp2_with fail
      refine ⟨trivial, ?_⟩
      refine (CallsIn.inRound l (callsIn_wide.2 (bld_rune W0.heap.size W0.heap.size L r (by omega) (by omega) W HI.out (by omega) (by omega)))).mono ?_
      rintro e w4 ⟨rfl, h1, hb1, hk1⟩
      gi_wp2
      obtain ⟨kf, kw⟩ := others_from w3.heap.size hk1 hb1.size HBX2.out
      have hb4 := hk1 (W0.heap.size + 1) _ HBX.out (fun e => by injection e with e; omega) (fun c f e => by injection e with _ e2; exact absurd e2 (by decide))
      refine ⟨kf, ⟨fun _ => hb4.trans HBX.out.symm, kw⟩, ?_, hb4, hBW.trans hb1⟩
      rw [HGB.out, HG1.out]
      exact .inr h1
    | false =>
      rw [if_neg (by decide)] at hG1
      have HG1 := hide_ hG1
      clear hG1
      gi_wp2_with fail
      refine ⟨trivial, ?_⟩
      refine (CallsIn.inRound l (callsIn_wide.2 (HPR.out _))).mono ?_
      rintro e w4 ⟨rfl, rfl⟩
      gi_wp2_with fail
      refine ⟨trivial, ?_⟩
      refine (CallsIn.inRound l (callsIn_wide.2 (bld_byte W0.heap.size W0.heap.size L 63 W HI.out (by omega) (by omega)))).mono ?_
      rintro e w4 ⟨rfl, h1, hb1, hk1⟩
      gi_wp2
      obtain ⟨kf, kw⟩ := others_from w3.heap.size hk1 hb1.size HBX2.out
      have hb4 := hk1 (W0.heap.size + 1) _ HBX.out (fun e => by injection e with e; omega) (fun c f e => by injection e with _ e2; exact absurd e2 (by decide))
      refine ⟨kf, ⟨fun _ => hb4.trans HBX.out.symm, kw⟩, ?_, hb4, hBW.trans hb1⟩
      rw [HGB.out, HG1.out]
      exact .inr h1
end Go.Proofs.YtmbofpeedjlfhaaDoor
