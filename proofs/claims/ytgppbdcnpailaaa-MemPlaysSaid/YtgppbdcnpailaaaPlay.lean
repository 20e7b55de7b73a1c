/-
  The world of playpenlaw09: its rows; the walks of bytes and sameTouches.
-/
import Derived.Laws.StructEq
import Derived.Test.YtgppbdcnpailaaaWords
namespace Go.Proofs.Ytgppbdcnpailaaa
open Go.RowKit
set_option linter.unusedVariables false

/-- what a list of touches reads as -/
def TReads (w : World) (B : Nat) (A : Option Addr) (n : Nat) (l : List (Int × Bool)) : Prop :=
  l.length = n ∧ (0 < n → ∃ ad, A = some ad ∧ ad.block < B ∧ ∀ j x a, l[j]? = some (x, a) → w.cell? (ad.add (j * 2)) = some (.int .u32 x) ∧ w.cell? ⟨(ad.add (j * 2)).block, (ad.add (j * 2)).off + 1, none⟩ = some (.bool a))
theorem touchCells_len (ts : List (Int × Bool)) : (touchCells ts).length = ts.length * 2 := by
  induction ts with
  | nil => rfl
  | cons t l ih =>
    rw [show touchCells (t :: l) = [.int .u32 t.1, .bool t.2] ++ touchCells l from rfl, List.length_append, ih, List.length_cons]
    simp only [List.length_cons, List.length_nil]
    omega
theorem TReads.of_reads {w : World} {B n : Nat} {A : Option Addr} {l : List (Int × Bool)} (h : Reads w B 2 A n (touchCells l)) : TReads w B A n l := by
  refine ⟨by have := h.1; rw [touchCells_len] at this; omega, fun hn => ?_⟩
  obtain ⟨ad, e, hlt, hj⟩ := h.2 hn
  refine ⟨ad, e, hlt, fun j x a hx => ?_⟩
  obtain ⟨g0, g1⟩ := touch_get l hx
  refine ⟨hj _ _ g0, ?_⟩
  have e1 : ad.add (j * 2 + 1) = ⟨(ad.add (j * 2)).block, (ad.add (j * 2)).off + 1, none⟩ := by
    rw [← add_of_add]
    generalize ad.add (j * 2) = p
    unfold Addr.add
    simp
  rw [← e1]
  exact hj _ _ g1
theorem touch_eq (w : World) (x : Int) (a : Bool) : (binOp .neq 73 (.agg #[.int .u32 x, .bool a]) (.agg #[.int .u32 x, .bool a])).run Try.prog w = .ok (.bool false) w := by
  rw [run_neq_struct, run_equalIn_agg _ _ _ _ _ (by kernel_rfl) (by kernel_rfl)]
  have h := @Try.underlying73
  simp only [go_sem, h]
  simp
  go_simp
set_option maxHeartbeats 400000 in
theorem sameTouches_any (A A' : Option Addr) (n c c' : Nat) (xs : List (Int × Bool)) (B : Nat) (w : World) (ha : TReads w B A n xs) (hb : TReads w B A' n xs) (hB : B ≤ w.heap.size) (hn : n ≤ 140737488351232) :
    Calls Try.prog 56 #[.slice A n c, .slice A' n c'] w fun e w' => e = .returned (.bool true) ∧ ∃ nq, w' = w.drewN nq := by
  have la : xs.length = n := ha.1
  have h0 : ((n : Int) != (n : Int)) = false := by simp
  have HA := hide_ ha
  have HB := hide_ hb
  have HL := hide_ la
  have HBB := hide_ hB
  clear ha hb la hB
  go_enter Try.func56, Try.ntmps56
  go_wp2
  go_loopw [5] (fun i wr => ∃ k : Nat, k ≤ n ∧ i = .int .i64 k ∧ ∃ nq, wr = w.drewN nq) (fun i _ => n - (intOf i).toNat)
  case atStart => exact ⟨0, Nat.zero_le _, rfl, 0, rfl⟩
  case round =>
    obtain ⟨k, hk, rfl, nq, rfl⟩ := hrel
    by_cases hlt : k < n
    · obtain ⟨⟨x, a⟩, hx⟩ : ∃ t, xs[k]? = some t := ⟨_, List.getElem?_eq_getElem (by have := HL.out; omega)⟩
      obtain ⟨ad, rfl, hbk, hc⟩ := HA.out.2 (by omega)
      obtain ⟨ad', rfl, hbk', hc'⟩ := HB.out.2 (by omega)
      obtain ⟨c0, c1⟩ := hc k x a hx
      obtain ⟨c2, c3⟩ := hc' k x a hx
      have hbs : (ad.add (k * 2)).block < w.heap.size := by rw [block_of_add]; have := HBB.out; omega
      have hbs' : (ad'.add (k * 2)).block < w.heap.size := by rw [block_of_add]; have := HBB.out; omega
      have hq := fun w => touch_eq w x a
      clear hc hc' hx hbk hbk'
      go_wp2
      go_quiet (fail)
      go_wp2
      go_roundw
      case rel => exact ⟨k + 1, by omega, by go_num, _, rfl⟩
      case measure => simp [intOf]; omega
    · obtain rfl : k = n := by omega
      go_wp2
      go_ret
      exact ⟨rfl, nq, rfl⟩

/-! ### the world's rows -/
/-- bytes that were answered, by the program and by the document -/
structure AnsV where
  A : Option Addr
  n : Nat
  c : Nat
  A' : Option Addr
  c' : Nat
  zs : List Int
/-- a log that was answered -/
structure NoteV where
  A : Option Addr
  n : Nat
  c : Nat
  A' : Option Addr
  c' : Nat
  ts : List (Int × Bool)
def gotC (G : List AnsV) : List Value := G.map fun a => .slice a.A a.n a.c
def keptC (G : List AnsV) : List Value := G.map fun a => .slice a.A' a.n a.c'
def noteC (T : List NoteV) : List Value := T.map fun a => .slice a.A a.n a.n
def wasC (T : List NoteV) : List Value := T.map fun a => .slice a.A' a.n a.c'
def wHead (q : Nat) (h0 h1 h2 h3 r0 r1 r2 r3 gv kv nv wv : Value) (G : List AnsV) (T : List NoteV) : List Ro :=
  [⟨89, 1, .slice (some ⟨q, 0, none⟩) 12 12, 12, [h0, h1, h2, h3, r0, r1, r2, r3, gv, kv, nv, wv]⟩,
   ⟨46, 1, gv, G.length, gotC G⟩, ⟨46, 1, kv, G.length, keptC G⟩,
   ⟨70, 1, nv, T.length, noteC T⟩, ⟨70, 1, wv, T.length, wasC T⟩]
theorem info_bytes : (Try.prog.info? 46).map (fun i => (i.zero, i.size, i.bytes)) = some (some (.slice none 0 0), 1, 24) := by kernel_rfl
theorem info_touches : (Try.prog.info? 70).map (fun i => (i.zero, i.size, i.bytes)) = some (some (.slice none 0 0), 1, 24) := by kernel_rfl
section
variable {W : World} {B q : Nat} {h0 h1 h2 h3 r0 r1 r2 r3 gv kv nv wv : Value} {G : List AnsV} {T : List NoteV} {ex : List Ro}
set_option maxRecDepth 100000 in
set_option maxHeartbeats 1000000 in
theorem bytes_any (A : Option Addr) (n c : Nat) (A' : Option Addr) (c' : Nat) (zs : List Int) (hO : Owns W B (wHead q h0 h1 h2 h3 r0 r1 r2 r3 gv kv nv wv G T ++ ex)) (hB : B ≤ W.heap.size) (hm : byteR A n c zs ∈ ex) (hm' : byteR A' n c' zs ∈ ex) (hn : n ≤ 65536) (hG : G.length ≤ 4398046511104) :
    Calls Try.prog 124 #[.pointer (some ⟨q, 0, none⟩), .slice A n c, .slice A' n c'] W fun e W' => e = .returned (.bool true) ∧
      ∃ gv' kv', Owns W' B (wHead q h0 h1 h2 h3 r0 r1 r2 r3 gv' kv' nv wv (G ++ [⟨A, n, c, A', c', zs⟩]) T ++ ex) ∧ Below B W W' := by
  obtain ⟨i0, hi0, hz0, hz1, hz2⟩ := info_parts info_bytes
  obtain ⟨Ag, cg, hgv, _, _⟩ := ownsRow_slice (hO.at_ (i := 1) rfl)
  simp only at hgv
  subst hgv
  obtain ⟨m, hmm⟩ : ∃ m, m = G.length := ⟨_, rfl⟩
  rw [← hmm] at hO hG
  obtain ⟨Ak, ck, hkv, _, _⟩ := ownsRow_slice (hO.at_ (i := 2) rfl)
  simp only at hkv
  subst hkv
  rw [← hmm] at hO
  have c8 : W.cell? ⟨q, 8, none⟩ = some (.slice Ag m cg) := hO.cell (i := 0) rfl rfl
  have bq : q < W.heap.size := (hO.base (i := 0) rfl).2
  have HM := hide_ hmm
  have HR := hide_ (show ∀ W', Owns W' B ex → Reads W' W'.heap.size 1 A n (u8s zs) ∧ Reads W' W'.heap.size 1 A' n (u8s zs) from fun W' h => ⟨Reads.of_own (h.1 _ hm), Reads.of_own (h.1 _ hm')⟩)
  have HO := hide_ hO
  have HB := hide_ hB
  clear hO hm hm' hmm hB
  go_enter Try.func124, Try.ntmps124
  go_wp2_with (at_builtin; refine wpList_append_owns _ rfl (.tmp 11) (.tmp 13) 30 rfl B _ 1 46 1 (.slice Ag m cg) m (gotC G) (by rw [HM.out]; rfl) (HO.out.alloc _) (by have := HB.out; simp; omega) i0 _ 24 Try.underlying30 hi0 hz0 hz1 hz2 rfl (by omega) rfl _ _ 1 1 [.slice A n c] rfl (reads_new W 46 1 1 [.slice A n c] rfl) (by simp [Value.oneCell']) (by simp only [maxLen]; omega) (by omega) ?_)
  intro tv2 w2 hO2 hb2 hsz2
  obtain ⟨A2, ct2, htv2, _, _⟩ := ownsRow_slice (hO2.at_ (i := 1) rfl)
  simp only at htv2
  subst htv2
  have c3 : w2.cell? ⟨q, 8, none⟩ = some (.slice Ag m cg) := hO2.cell (i := 0) rfl rfl
  have f3 := hO2.frozen (i := 0) rfl 8
  have b3 := hO2.base (i := 0) rfl
  have b3' : q < w2.heap.size := b3.2
  have hO3 := hO2.store (i := 0) (e := 89) (size := 1) (n := 12) (g := q) (c := 12) (j := 8) rfl (by simp) (.slice A2 (m + 1) ct2)
  have hb3 := (((Below.refl B W).alloc HB.out (.cells #[.slice A n c] 46)).trans hb2).setCell (p := ⟨q, 8, none⟩) b3.1 (.slice A2 (m + 1) ct2)
  have c9 : (w2.setCell ⟨q, 8, none⟩ (.slice A2 (m + 1) ct2)).cell? ⟨q, 9, none⟩ = some (.slice Ak m ck) := hO3.cell (i := 0) rfl rfl
  have HB3 := hide_ hb3
  have HO3 := hide_ hO3
  have HSZ := hide_ hb3.size
  have HRN : Hid (Reads ((w2.setCell ⟨q, 8, none⟩ (.slice A2 (m + 1) ct2)).alloc (.cells [Value.slice A' n c'].toArray 46)) (w2.heap.size + 1) 1 (some ⟨w2.heap.size, 0, none⟩) 1 [.slice A' n c']) := hide_ (by
    have h := reads_new (w2.setCell ⟨q, 8, none⟩ (.slice A2 (m + 1) ct2)) 46 1 1 [.slice A' n c'] rfl
    rw [World.size_setCell] at h
    exact h)
  clear hO2 hb2 hO3 hb3 b3 HO
  go_wp2_with (at_builtin; refine wpList_append_owns _ rfl (.tmp 21) (.tmp 23) 30 rfl B _ 2 46 1 (.slice Ak m ck) m (keptC G) (by rw [HM.out]; rfl) (HO3.out.alloc _) (Nat.le_trans HB.out (Nat.le_trans HSZ.out (by simp [World.size_alloc]))) i0 _ 24 Try.underlying30 hi0 hz0 hz1 hz2 rfl (by omega) rfl _ _ 1 1 [.slice A' n c'] rfl HRN.out (by simp [Value.oneCell']) (by simp only [maxLen]; omega) (by omega) ?_)
  intro tv4 w4 hO4 hb4 hsz4
  obtain ⟨A4, ct4, htv4, _, _⟩ := ownsRow_slice (hO4.at_ (i := 2) rfl)
  simp only at htv4
  subst htv4
  have d3 : w4.cell? ⟨q, 9, none⟩ = some (.slice Ak m ck) := hO4.cell (i := 0) rfl rfl
  have f4 := hO4.frozen (i := 0) rfl 9
  have b4 := hO4.base (i := 0) rfl
  have b4' : q < w4.heap.size := b4.2
  have hO5 := hO4.store (i := 0) (e := 89) (size := 1) (n := 12) (g := q) (c := 12) (j := 9) rfl (by simp) (.slice A4 (m + 1) ct4)
  have hb5 := ((HB3.out.alloc (Nat.le_trans HB.out HSZ.out) (.cells #[.slice A' n c'] 46)).trans hb4).setCell (p := ⟨q, 9, none⟩) b4.1 (.slice A4 (m + 1) ct4)
  have hO6 : Owns (w4.setCell ⟨q, 9, none⟩ (.slice A4 (m + 1) ct4)) B (wHead q h0 h1 h2 h3 r0 r1 r2 r3 (.slice A2 (m + 1) ct2) (.slice A4 (m + 1) ct4) nv wv (G ++ [⟨A, n, c, A', c', zs⟩]) T ++ ex) := by
    unfold wHead
    rw [List.length_append, List.length_singleton, ← HM.out, show gotC (G ++ [⟨A, n, c, A', c', zs⟩]) = gotC G ++ [.slice A n c] from List.map_append, show keptC (G ++ [⟨A, n, c, A', c', zs⟩]) = keptC G ++ [.slice A' n c'] from List.map_append]
    exact hO5
  obtain ⟨hr1, hr2⟩ := HR.out _ (hO6.sub (List.sublist_append_right _ _))
  have HS := hide_ (SameBytes_any A A' n c n c' zs zs _ _ hr1 hr2 (by simp only [maxLen]; omega) (by simp only [maxLen]; omega))
  have HO6 := hide_ hO6
  have HB6 := hide_ hb5
  clear hO4 hb4 hO5 hb5 hO6 hr1 hr2 HO3 HB3 HR
  go_wp2_with fail
  refine HS.out.mono ?_
  rintro e w6 ⟨rfl, nq, rfl⟩
  go_wp2
  go_ret
  exact ⟨by simp, _, _, HO6.out.drewN nq, below_draws2 HB6.out nq⟩
end
end Go.Proofs.Ytgppbdcnpailaaa
