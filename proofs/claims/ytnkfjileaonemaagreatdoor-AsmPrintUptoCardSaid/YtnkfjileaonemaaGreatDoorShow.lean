/-
  The literal of bytes: plain law, the document's Show, text.Show.
-/
import Derived.Laws.BytesArg
import Derived.Test.YtnkfjileaonemaaGreatDoorBuilder
import Derived.Test.YtnkfjileaonemaaGreatDoorShelf
namespace Go.Proofs.YtnkfjileaonemaaGreatDoor
open Go.RowKit Go.PlainAid

def nibN (x : Int) : Int := if x < 10 then 48 + x else 87 + x
/-- what stands for a byte -/
def showB (c : Int) : List Int :=
  if c = 10 then [92, 110] else if c = 9 then [92, 116] else if c = 13 then [92, 114] else if c = 0 then [92, 48] else if c = 34 then [92, 34] else if c = 92 then [92, 92]
  else if 32 ≤ c ∧ c ≤ 126 then [c] else [92, 120, nibN (c / 16), nibN (c % 16)]
def showM (l : List Int) : List Int := 34 :: l.flatMap showB
def showL (l : List Int) : List Int := showM l ++ [34]
theorem showB_len (c : Int) : (showB c).length ≤ 4 := by
  unfold showB
  repeat' split
  all_goals simp
theorem showM_snoc (l : List Int) (x : Int) : showM (l ++ [x]) = showM l ++ showB x := by simp [showM]
theorem showM_len (l : List Int) : (showM l).length ≤ 4 * l.length + 1 := by
  unfold showM
  rw [List.length_cons]
  have : (l.flatMap showB).length ≤ 4 * l.length := by
    induction l with
    | nil => simp
    | cons c l ih =>
      have := showB_len c
      rw [List.flatMap_cons]
      simp only [List.length_append, List.length_cons]
      omega
  omega
def isByte (x : Int) : Prop := 0 ≤ x ∧ x ≤ 255
theorem nibN_byte (x : Int) (h0 : 0 ≤ x) (h1 : x < 16) : isByte (nibN x) := by unfold nibN isByte; split <;> omega
theorem showB_byte (c : Int) (h : isByte c) : ∀ x ∈ showB c, isByte x := by
  obtain ⟨h0, h1⟩ := h
  have n1 := nibN_byte (c / 16) (by omega) (by omega)
  have n2 := nibN_byte (c % 16) (by omega) (by omega)
  intro x hx
  unfold showB at hx
  repeat' split at hx
  all_goals
    simp only [List.mem_cons, List.not_mem_nil, or_false] at hx
  all_goals first
    | (rcases hx with rfl | rfl | rfl | rfl <;> first | exact n1 | exact n2 | (unfold isByte; omega))
    | (rcases hx with rfl | rfl <;> unfold isByte <;> omega)
    | (subst hx; unfold isByte; omega)
theorem showL_byte (l : List Int) (h : ∀ x ∈ l, isByte x) : ∀ x ∈ showL l, isByte x := by
  intro x hx
  simp only [showL, showM, List.mem_append, List.mem_cons, List.mem_flatMap, List.not_mem_nil, or_false] at hx
  rcases hx with (rfl | ⟨c, hc, hx⟩) | rfl
  · unfold isByte; omega
  · exact showB_byte c (h c hc) x hx
  · unfold isByte; omega
theorem run_str_of_reads {P : Program} (w : World) (B : Nat) (src e : TypeId) (hs : P.underlying src = some (.slice e)) (he : P.underlying e = some (.int .u8)) (A : Option Addr) (n c : Nat) (l : List Int)
    (h : Reads w B 1 A n (u8s l)) (dst : TypeId) (hd : P.underlying dst = some .string) :
    (convert src dst (.slice A n c)).run P w = .ok (.string (strOfNums l)) w := by
  have hl : l.length = n := by simpa using h.1
  cases A with
  | none =>
    have h0 : n = 0 := by
      rcases Nat.eq_zero_or_pos n with c | c
      · exact c
      · obtain ⟨ad, e, _⟩ := h.2 c; cases e
    subst h0
    obtain rfl : l = [] := List.eq_nil_of_length_eq_zero hl
    rw [run_convert_bytes_nil w src e hs he 0 c dst hd]
    rfl
  | some a =>
    have hld : (loadCells a n).run P w = .ok (l.map (Value.int .u8)).toArray w := by
      have := run_loadCells_list (P := P) w a (l.map (Value.int .u8)) (fun j v hj => by
        have hj' : j < n := by
          rw [← hl]
          have := (List.getElem?_eq_some_iff.1 hj).1
          simpa using this
        obtain ⟨ad, e, _, hc⟩ := h.2 (by omega)
        injection e with e
        subst e
        exact hc j v hj)
      simpa [hl] using this
    rw [run_convert_bytes_string w src dst e _ n c hs he hd, run_bytesToString w _ n c _ hld, foldl_push_bytes]
    simp [strOfNums, ByteArray.empty, ByteArray.emptyWithCapacity]
    rfl
/-- bytes, as the shelf has them -/
def b8s (l : List Int) : List UInt8 := l.map fun x => UInt8.ofNat x.toNat
theorem b8s_cells (l : List Int) (h : ∀ x ∈ l, isByte x) : u8s l = Lib.byteCells (b8s l) := by
  induction l with
  | nil => rfl
  | cons x l ih =>
    obtain ⟨h0, h1⟩ := h x (by simp)
    have e : ((UInt8.ofNat x.toNat).toNat : Int) = x := by rw [UInt8.toNat_ofNat', Nat.mod_eq_of_lt (by omega)]; omega
    have := ih (fun y hy => h y (by simp [hy]))
    simp only [u8s, Lib.byteCells, b8s, List.map_cons, e] at this ⊢
    rw [this]
theorem nibble_any (x : Int) (w : World) (h0 : 0 ≤ x) (h1 : x < 16) : Calls Tryz.prog 62 #[.int .u8 x] w fun e w' => e = .returned (.int .u8 (nibN x)) ∧ w = w' := by
  by_cases h : x < 10
  · have e : nibN x = 48 + x := by unfold nibN; rw [if_pos h]
    have p : (48 + x) % 256 = 48 + x := by omega
    rw [e]
    go_enter Tryz.func62, Tryz.ntmps62
    go_wp2
    go_ret
    exact ⟨rfl, rfl⟩
  · have e : nibN x = 87 + x := by unfold nibN; rw [if_neg h]
    have p : (87 + x) % 256 = 87 + x := by omega
    rw [e]
    go_enter Tryz.func62, Tryz.ntmps62
    go_wp2
    go_ret
    exact ⟨rfl, rfl⟩
/-- the ways of a byte -/
theorem show_ways (x : Int) (h : isByte x) : (x = 10 ∨ x = 9 ∨ x = 13 ∨ x = 0 ∨ x = 34 ∨ x = 92) ∨ (32 ≤ x ∧ x ≤ 126 ∧ x ≠ 34 ∧ x ≠ 92) ∨ ((x < 32 ∧ 0 < x ∧ x ≠ 10 ∧ x ≠ 9 ∧ x ≠ 13) ∨ (126 < x ∧ x ≤ 255)) := by unfold isByte at h; omega
theorem showB_self (x : Int) (h : 32 ≤ x ∧ x ≤ 126 ∧ x ≠ 34 ∧ x ≠ 92) : showB x = [x] := by
  unfold showB
  rw [if_neg (by omega), if_neg (by omega), if_neg (by omega), if_neg (by omega), if_neg (by omega), if_neg (by omega), if_pos (by omega)]
theorem showB_hex (x : Int) (h : (x < 32 ∧ 0 < x ∧ x ≠ 10 ∧ x ≠ 9 ∧ x ≠ 13) ∨ (126 < x ∧ x ≤ 255)) : showB x = [92, 120, nibN (x / 16), nibN (x % 16)] := by
  unfold showB
  rw [if_neg (by omega), if_neg (by omega), if_neg (by omega), if_neg (by omega), if_neg (by omega), if_neg (by omega), if_neg (by omega)]

set_option maxRecDepth 100000 in
set_option maxHeartbeats 2000000 in
theorem rShow_any (A : Option Addr) (n c : Nat) (xs : List Int) (B : Nat) (w : World) (ha : Reads w B 1 A n (u8s xs)) (hB : B ≤ w.heap.size) (hn : n ≤ 2097152) (hx : ∀ x ∈ xs, isByte x) :
    Calls Tryz.prog 32 #[.slice A n c] w fun e w' => e = .returned (.string (strOfNums (showL xs))) ∧ Below w.heap.size w w' := by
  obtain ⟨i0, hi, hz0, hz1, hz2⟩ := info_parts bld_u8
  have la : xs.length = n := by simpa using ha.1
  have HLA := hide_ la
  clear la
  go_enter Tryz.func32, Tryz.ntmps32
  go_wp2
  go_loopw [3, 4] (fun v i wr => ∃ k : Nat, k ≤ n ∧ i = .int .i64 k ∧ Owns wr w.heap.size [⟨5, 1, v, (showM (xs.take k)).length, u8s (showM (xs.take k))⟩] ∧ Below w.heap.size w wr) (fun _ i _ => n - (intOf i).toNat)
  case atStart =>
    refine ⟨0, Nat.zero_le _, rfl, ?_, (Below.refl _ w).alloc (Nat.le_refl _) _⟩
    exact Owns.box (Owns.nil_ (w := w)) 5 #[.int .u8 34] (Nat.le_refl _) (by unfold maxLen; decide)
  case round =>
    obtain ⟨k, hk, rfl, hO, hb⟩ := hrel
    obtain ⟨A0, c0, hv0, _, _⟩ := ownsRow_slice (hO.at_ (i := 0) rfl)
    simp only at hv0
    subst hv0
    have hsz := hb.size
    have hlen : (showM (xs.take k)).length ≤ 4 * k + 1 := by
      have h1 := showM_len (xs.take k)
      have h2 : (xs.take k).length ≤ k := by simp; omega
      omega
    by_cases hlt : k < n
    · obtain ⟨ad, u, rfl, hadb, hu1, hc⟩ := ((ha.below (hb.mono hB))).at_ hlt
      have hu := get_map (Value.int .u8) xs 0 k (by rw [HLA.out]; exact hlt) hu1
      subst hu
      have hxb : isByte (xs[k]?.getD 0) := by
        have h9 : k < xs.length := by rw [HLA.out]; exact hlt
        rw [List.getElem?_eq_getElem h9]; exact hx _ (List.getElem_mem h9)
      obtain ⟨x, hxx⟩ : ∃ x, x = xs[k]?.getD 0 := ⟨_, rfl⟩
      rw [← hxx] at hc hxb
      have HS := hide_ (show showM (xs.take (k + 1)) = showM (xs.take k) ++ showB x by rw [take_snoc xs 0 k (by rw [HLA.out]; exact hlt), ← hxx, showM_snoc])
      clear hxx hu1
      obtain ⟨N, hN⟩ : ∃ N, N = (showM (xs.take k)).length := ⟨_, rfl⟩
      rw [← hN] at hlen hO ⊢
      have HNN := hide_ hN
      clear hN
      have h0 := hxb.1
      have h1 := hxb.2
      rcases show_ways x hxb with h | h | h
      · clear hxb h0 h1
        rcases h with rfl | rfl | rfl | rfl | rfl | rfl
        all_goals
          go_wp2_with (at_builtin; refine wpList_append_owns _ rfl (.tmp 33) (.tmp 35) 23 rfl w.heap.size _ 0 5 1 _ N _ rfl (hO.alloc _) (by simp; omega) i0 _ 1 Tryz.underlying23 hi hz0 hz1 hz2 rfl (by omega) rfl _ _ 2 2 _ rfl (reads_new wr 5 1 2 [.int .u8 92, .int .u8 _] rfl) (by simp [Value.oneCell']) (by simp only [maxLen]; omega) (by omega) ?_; intro v1 w1 hO1 hb1 hsz1)
          go_roundw
          case rel =>
            refine ⟨k + 1, by omega, by go_num, ?_, (hb.alloc (by omega) _).trans hb1⟩
            rw [HS.out]
            simpa [u8s, showB, HNN.out] using hO1
          case measure => simp [intOf]; omega
      · have HB := hide_ (showB_self x h)
        obtain ⟨g0, g1, g2, g3⟩ := h
        have g4 : x ≠ 10 := by omega
        have g5 : x ≠ 9 := by omega
        have g6 : x ≠ 13 := by omega
        have g7 : x ≠ 0 := by omega
        go_wp2_with (at_builtin; refine wpList_append_owns _ rfl (.tmp 43) (.tmp 45) 23 rfl w.heap.size _ 0 5 1 _ N _ rfl (hO.alloc _) (by simp; omega) i0 _ 1 Tryz.underlying23 hi hz0 hz1 hz2 rfl (by omega) rfl _ _ 1 1 _ rfl (reads_new wr 5 1 1 [.int .u8 x] rfl) (by simp [Value.oneCell']) (by simp only [maxLen]; omega) (by omega) ?_; intro v1 w1 hO1 hb1 hsz1)
        go_roundw
        case rel =>
          refine ⟨k + 1, by omega, by go_num, ?_, (hb.alloc (by omega) _).trans hb1⟩
          rw [HS.out, HB.out]
          simpa [u8s, HNN.out] using hO1
        case measure => simp [intOf]; omega
      · have HB := hide_ (showB_hex x h)
        have g2 : x ≠ 34 := by omega
        have g3 : x ≠ 92 := by omega
        have g4 : x ≠ 10 := by omega
        have g5 : x ≠ 9 := by omega
        have g6 : x ≠ 13 := by omega
        have g7 : x ≠ 0 := by omega
        have m1 := fun W => nibble_any (x / 16) W (by omega) (by omega)
        have m2 := fun W => nibble_any (x % 16) W (by omega) (by omega)
        have M1 := hide_ m1
        have M2 := hide_ m2
        clear m1 m2
        have h' : x < 32 ∨ 126 < x := by omega
        clear h
        rcases h' with h | h
        all_goals
          go_wp2_with (first
            | (go_at_call 62; first | (refine (M1.out _).mono ?_; rintro e w' ⟨rfl, rfl⟩) | (refine (M2.out _).mono ?_; rintro e w' ⟨rfl, rfl⟩))
            | (at_builtin; refine wpList_append_owns _ rfl (.tmp 47) (.tmp 54) 23 rfl w.heap.size _ 0 5 1 _ N _ rfl (hO.alloc _) (by simp; omega) i0 _ 1 Tryz.underlying23 hi hz0 hz1 hz2 rfl (by omega) rfl _ _ 4 4 _ rfl (reads_new wr 5 1 4 [.int .u8 92, .int .u8 120, .int .u8 _, .int .u8 _] rfl) (by simp [Value.oneCell']) (by simp only [maxLen]; omega) (by omega) ?_; intro v1 w1 hO1 hb1 hsz1))
          go_roundw
          case rel =>
            refine ⟨k + 1, by omega, by go_num, ?_, (hb.alloc (by omega) _).trans hb1⟩
            rw [HS.out, HB.out]
            simpa [u8s, HNN.out] using hO1
          case measure => simp [intOf]; omega
    · obtain rfl : k = n := by omega
      have HT := hide_ (show xs.take k = xs by rw [← HLA.out]; exact List.take_length)
      rw [HT.out] at hO hlen
      obtain ⟨N, hN⟩ : ∃ N, N = (showM xs).length := ⟨_, rfl⟩
      rw [HT.out, ← hN]
      rw [← hN] at hlen hO
      have HNN := hide_ hN
      clear hN
      go_wp2_with (at_builtin; refine wpList_append_owns _ rfl (.tmp 56) (.tmp 57) 23 rfl w.heap.size _ 0 5 1 _ N _ rfl (hO.alloc _) (by simp; omega) i0 _ 1 Tryz.underlying23 hi hz0 hz1 hz2 rfl (by omega) rfl _ _ 1 1 _ rfl (reads_new wr 5 1 1 [.int .u8 34] rfl) (by simp [Value.oneCell']) (by simp only [maxLen]; omega) (by omega) ?_; intro v1 w1 hO1 hb1 hsz1
                   obtain ⟨A3, c3, hv1, _, _⟩ := ownsRow_slice (hO1.at_ (i := 0) rfl)
                   simp only at hv1
                   subst hv1
                   have hcv := run_str_of_reads (P := Tryz.prog) w1 _ 23 5 Tryz.underlying23 Tryz.underlying5 A3 _ c3 (showL xs) (by have := Reads.of_own (hO1.at_ (i := 0) rfl); simpa [showL, u8s] using this) 9 Tryz.underlying9)
      go_ret
      exact ⟨rfl, (hb.alloc (by omega) _).trans hb1⟩
end Go.Proofs.YtnkfjileaonemaaGreatDoor
