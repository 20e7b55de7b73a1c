/-
  What an argument that reads as a datum says of its cells: slices, structs, ints, each with the bound on its size; for whatever program.
-/
import Derived.Test.YtcfpclhoockcfaaM01
import Derived.ChangeArms
import Derived.ChangeOld
import Derived.ProofKit
import Derived.SizedLaws
import Derived.Test.YtcfpclhoockcfaaM09
namespace Go.Proofs.Ytcfpclhoockcfaa
set_option maxRecDepth 100000
open Go.RowKit

theorem two_of_len {α : Type} {l : List α} (h : l.length = 2) : ∃ x y, l = [x, y] := by
  match l, h with
  | [x, y], _ => exact ⟨x, y, rfl⟩
theorem okWide_struct {P : Program} {w : World} {r : Reach} {base : Nat} {t : TypeId} {v : Value} {fs : Array Field} (ht : P.underlying t = some (.struct fs)) (h : Value.okWide P w r base t v) : ∃ l : List Value, v = .agg l.toArray := by
  simp only [Value.okWide, ht] at h
  obtain ⟨cs, rfl, _, _⟩ := h
  exact ⟨cs.toList, by simp⟩
theorem skolem_lt {α : Type} [Inhabited α] {n : Nat} {p : Nat → α → Prop} (h : ∀ i, i < n → ∃ x, p i x) : ∃ f : Nat → α, ∀ i, i < n → p i (f i) := by
  classical
  exact ⟨fun i => if hi : i < n then Classical.choose (h i hi) else default, fun i hi => by simp only [dif_pos hi]; exact Classical.choose_spec (h i hi)⟩

section
variable {H : Type} {enc : TypeId × Value → H} {P : Program} {w : World} {held : Bool}

/-- cells that read as some datum of a type, none of its parts too large -/
def Seen (enc : TypeId × Value → H) (P : Program) (w : World) (held : Bool) (t : TypeId) (cs : List Value) : Prop :=
  ∃ n d p, DataW.trod enc P w 0 (fun _ => true) held n t cs = some (d, p) ∧ ∀ x ∈ DataW.weights P t d, x ≤ reachBytes

theorem weights_all {e : TypeId} {l : List (DataW H)} {d : DataW H} (hd : d ∈ l) : ∀ x ∈ DataW.weights P e d, x ∈ DataW.weightsAll P e l := by
  induction l with
  | nil => cases hd
  | cons a r ih =>
    intro x hx
    rw [DataW.weightsAll]
    rcases List.mem_cons.1 hd with rfl | hr
    · exact List.mem_append_left _ hx
    · exact List.mem_append_right _ (ih hr x hx)
theorem seen_int {t : TypeId} {k : IntKind} {cs : List Value} (ht : P.underlying t = some (.int k)) (h : Seen enc P w held t cs) : ∃ a, cs = [.int k a] ∧ (Lit.int k a).wf = true := by
  obtain ⟨n, d, p, h, _⟩ := h
  cases n with
  | zero => simp [DataW.trod] at h
  | succ n =>
    unfold DataW.trod at h
    rw [ht] at h
    split at h <;> simp_all
theorem seen_bool {t : TypeId} {cs : List Value} (ht : P.underlying t = some .bool) (h : Seen enc P w held t cs) : ∃ b, cs = [.bool b] := by
  obtain ⟨n, d, p, h, _⟩ := h
  cases n with
  | zero => simp [DataW.trod] at h
  | succ n =>
    unfold DataW.trod at h
    rw [ht] at h
    split at h <;> simp_all
theorem seen_string {t : TypeId} {cs : List Value} (ht : P.underlying t = some .string) (h : Seen enc P w held t cs) : ∃ s : ByteArray, cs = [.string s] ∧ s.size ≤ reachBytes := by
  obtain ⟨n, d, p, h, hw⟩ := h
  cases n with
  | zero => simp [DataW.trod] at h
  | succ n =>
    unfold DataW.trod at h
    rw [ht] at h
    split at h <;> simp_all
    rename_i s
    obtain ⟨_, rfl, _⟩ := h
    simpa [DataW.weights] using hw
theorem seen_struct {t : TypeId} {fs : Array Field} {cs : List Value} (ht : P.underlying t = some (.struct fs)) (h : Seen enc P w held t cs) :
    cs.length = P.cellsOf t ∧ ∀ (i : Nat) (f : Field), fs[i]? = some f → Seen enc P w held f.type ((cs.drop f.offset).take (P.cellsOf f.type)) := by
  obtain ⟨n, d, p, h, hw⟩ := h
  obtain ⟨xs, m, rfl, hx, hl, hlen, hf⟩ := DataW.trod_struct ht h
  refine ⟨hl, fun i f hi => ?_⟩
  have hg := hf i f hi
  have hil : i < xs.length := by rw [hlen]; exact (Array.getElem?_eq_some_iff.1 hi).1
  rw [List.getElem?_eq_getElem hil] at hg
  injection hx with hd _
  subst hd
  refine ⟨m, xs[i].1, xs[i].2, hg, fun x hx => hw x ?_⟩
  rw [DataW.weights, ht]
  exact DataW.weights_mem_each (j := i) (t := f.type) (d := xs[i].1) (by rw [List.getElem?_map, Array.getElem?_toList, hi]; rfl) (by rw [List.getElem?_map, List.getElem?_eq_getElem hil]; rfl) x hx
theorem seen_slice {t e : TypeId} {cs : List Value} (ht : P.underlying t = some (.slice e)) (he : 0 < P.cellsOf e) (h : Seen enc P w held t cs) :
    ∃ A n c, cs = [.slice A n c] ∧ n ≤ c ∧ c ≤ maxLen ∧ c * P.bytesOf e ≤ reachBytes ∧
      (0 < n → ∃ ad, A = some ad ∧ ad.block < w.heap.size ∧ ∀ i, i < n → ∃ vs, vs.length = P.cellsOf e ∧ (∀ j, j < P.cellsOf e → w.cell? ((ad.add (i * P.cellsOf e)).add j) = vs[j]?) ∧ Seen enc P w held e vs) := by
  obtain ⟨n, d, p, h, hw⟩ := h
  rcases DataW.trod_slice ht h with ⟨rfl, _⟩ | ⟨a, len, cap, elems, rest, m, _, rfl, hx, _, hl, hc, hlen, hel, hre, _⟩
  · exact ⟨none, 0, 0, rfl, Nat.le_refl _, Nat.zero_le _, by simp, fun h => absurd h (by omega)⟩
  · injection hx with hd _
    subst hd
    have hr := (hre rfl).1
    have hall : ∀ i, i < len → ∃ vs, vs.length = P.cellsOf e ∧ (∀ j, j < P.cellsOf e → w.cell? ((a.add (i * P.cellsOf e)).add j) = vs[j]?) ∧ Seen enc P w held e vs ∧ a.block < w.heap.size := by
      intro i hi
      have hE := hel i hi
      have hil : i < elems.length := by omega
      rw [List.getElem?_eq_getElem hil] at hE
      simp only [Option.bind_eq_some_iff] at hE
      obtain ⟨vs, hvs, htr⟩ := hE
      have hcs := World.cells?_some hvs
      have hb := World.cells?_block hvs he
      rw [block_of_add] at hb
      refine ⟨vs, hcs.2.1, hcs.2.2, ⟨m, elems[i].1, elems[i].2, htr, fun x hx => hw x ?_⟩, hb⟩
      rw [DataW.weights, ht]
      exact List.mem_cons_of_mem _ (List.mem_append_left _ (weights_all (List.mem_map.2 ⟨_, List.getElem_mem hil, rfl⟩) x hx))
    refine ⟨some a, len, cap, rfl, hl, hc, ?_, fun h0 => ⟨a, rfl, ?_, fun i hi => ?_⟩⟩
    · have h9 := hw (((elems.map (·.1)).length + (rest.map (·.1)).length) * P.bytesOf e) (by rw [DataW.weights, ht]; exact List.mem_cons_self ..)
      rw [List.length_map, List.length_map, hlen, hr, Nat.add_sub_cancel' hl] at h9
      exact h9
    · obtain ⟨_, _, _, _, hb⟩ := hall 0 h0
      exact hb
    · obtain ⟨vs, h1, h2, h3, _⟩ := hall i hi
      exact ⟨vs, h1, h2, h3⟩
theorem seen_ints {t e : TypeId} {k : IntKind} {cs : List Value} (ht : P.underlying t = some (.slice e)) (he : P.underlying e = some (.int k)) (hc : P.cellsOf e = 1) (h : Seen enc P w held t cs) :
    ∃ (A : Option Addr) (n c : Nat) (xs : List Int), cs = [.slice A n c] ∧ n ≤ c ∧ c ≤ maxLen ∧ c * P.bytesOf e ≤ reachBytes ∧ Reads w w.heap.size 1 A n (xs.map (Value.int k)) ∧ ∀ x ∈ xs, (Lit.int k x).wf = true := by
  obtain ⟨A, n, c, rfl, h1, h2, h3, h4⟩ := seen_slice ht (by omega) h
  rcases Nat.eq_zero_or_pos n with rfl | hn
  · exact ⟨A, 0, c, [], rfl, h1, h2, h3, ⟨by simp, fun h => absurd h (by omega)⟩, by simp⟩
  · obtain ⟨ad, rfl, hb, hi⟩ := h4 hn
    have hv : ∀ i, i < n → ∃ a : Int, w.cell? (ad.add i) = some (.int k a) ∧ (Lit.int k a).wf = true := by
      intro i hlt
      obtain ⟨vs, hl, hcell, hs⟩ := hi i hlt
      obtain ⟨a, rfl, hw⟩ := seen_int he hs
      have := hcell 0 (by omega)
      rw [hc, Nat.mul_one, add_of_add, Nat.add_zero] at this
      exact ⟨a, this, hw⟩
    obtain ⟨f, hf⟩ := skolem_lt hv
    refine ⟨some ad, n, c, (List.range n).map f, rfl, h1, h2, h3, ⟨by simp, fun _ => ⟨ad, rfl, hb, fun j u hu => ?_⟩⟩, fun x hx => ?_⟩
    · have hj : j < n := by
        have := (List.getElem?_eq_some_iff.1 hu).1
        simpa using this
      have hu' : u = .int k (f j) := by simpa [hj] using hu.symm
      rw [(hf j hj).1, hu']
    · obtain ⟨j, hj, rfl⟩ := List.mem_map.1 hx
      exact (hf j (List.mem_range.1 hj)).2
end
end Go.Proofs.Ytcfpclhoockcfaa
/-
  The walk of the statement MemBack.
-/
namespace Go.Proofs.Ytcfpclhoockcfaa
set_option maxRecDepth 100000
open Go.RowKit

/-! ### the plain law -/
theorem puts_congr {N : Nat} {a b : Int} {ys xs : List Int} (h : ∀ k, plc N a k = plc N b k) : ∀ n, puts N a ys xs n = puts N b ys xs n := by
  intro n
  induction n with
  | zero => rfl
  | succ n ih => rw [puts, puts, ih, h n]
theorem back_words {N : Nat} (hN : IsPow N) (h4 : 256 ≤ N) {xs : List Int} (hx : xs.length = N) (a v : Int) :
    wordAt N a (puts N a (bytes4 v) xs 4) 4 = v ∧ wordAt N a (puts N a (bytes4 v) xs 4) 2 = v % 65536 ∧ wordAt N a (puts N a (bytes4 v) xs 4) 1 = v % 256 ∧
      wordAt N ((a + 3) % 4294967296) (puts N a (bytes4 v) xs 4) 1 = v / 16777216 ∧ wordAt N ((a + 2) % 4294967296) (puts N a (bytes4 v) xs 4) 2 = v / 65536 ∧
      wordAt N ((a + 1) % 4294967296) (puts N a (bytes4 v) xs 4) 2 = v / 256 % 65536 ∧ wordAt N ((a + 1) % 4294967296) (puts N a (bytes4 v) xs 4) 1 = v / 256 % 256 ∧
      wordAt N ((a + 2) % 4294967296) (puts N a (bytes4 v) xs 4) 1 = v / 65536 % 256 := by
  have g := fun j (hj : j < 4) => gt_puts hN (a := a) (ys := bytes4 v) hx 4 (by omega) j (by omega)
  have g0 := g 0 (by omega)
  have g1 := g 1 (by omega)
  have g2 := g 2 (by omega)
  have g3 := g 3 (by omega)
  simp only [show (0 : Nat) < 4 by omega, show (1 : Nat) < 4 by omega, show (2 : Nat) < 4 by omega, show (3 : Nat) < 4 by omega, if_true, bytes4, List.getElem?_cons_zero, List.getElem?_cons_succ, Option.getD_some] at g0 g1 g2 g3
  have s1 : ∀ k, plc N ((a + 1) % 4294967296) k = plc N a (1 + k) := plc_shift hN a 1
  have s2 : ∀ k, plc N ((a + 2) % 4294967296) k = plc N a (2 + k) := plc_shift hN a 2
  have s3 : ∀ k, plc N ((a + 3) % 4294967296) k = plc N a (3 + k) := plc_shift hN a 3
  unfold wordAt
  simp only [s1, s2, s3, Nat.add_zero, show (1 : Nat) + 1 = 2 from rfl, show (2 : Nat) + 1 = 3 from rfl]
  simp [g0, g1, g2, g3, bytes4]
  omega
theorem back_mixed {N : Nat} (hN : IsPow N) (h4 : 256 ≤ N) {xs : List Int} (hx : xs.length = N) (a v v1 v2 : Int) :
    wordAt N a (puts N ((a + 2) % 4294967296) (bytes4 v2) (puts N a (bytes4 v1) (puts N a (bytes4 v) xs 4) 2) 1) 4 = v1 % 65536 + v2 % 256 * 65536 + v / 16777216 * 16777216 := by
  have hx1 : (puts N a (bytes4 v) xs 4).length = N := by rw [puts_len, hx]
  have hx2 : (puts N a (bytes4 v1) (puts N a (bytes4 v) xs 4) 2).length = N := by rw [puts_len, hx1]
  have g := fun j (hj : j < 4) => gt_puts hN (a := a) (ys := bytes4 v) hx 4 (by omega) j (by omega)
  have k := fun j (hj : j < 4) => gt_puts hN (a := a) (ys := bytes4 v1) hx1 2 (by omega) j (by omega)
  have e : ∀ j, j < 4 → gt (puts N ((a + 2) % 4294967296) (bytes4 v2) (puts N a (bytes4 v1) (puts N a (bytes4 v) xs 4) 2) 1) (plc N a j) = if j = 2 then v2 % 256 else gt (puts N a (bytes4 v1) (puts N a (bytes4 v) xs 4) 2) (plc N a j) := by
    intro j hj
    have s2 : plc N ((a + 2) % 4294967296) 0 = plc N a 2 := plc_shift hN a 2 0
    have hb := plc_bd hN a 2
    show gt ((puts N a (bytes4 v1) (puts N a (bytes4 v) xs 4) 2).set (plc N ((a + 2) % 4294967296) 0).toNat (v2 % 256)) (plc N a j) = _
    rw [s2, gt_set _ hb.1 (by rw [hx2]; exact hb.2) (plc_bd hN a j).1]
    by_cases c : j = 2
    · subst c
      rw [if_pos rfl, if_pos rfl]
    · rw [if_neg c, if_neg (fun h => c (plc_inj hN (by omega) (by omega) h).symm)]
  have e0 := e 0 (by omega)
  have e1 := e 1 (by omega)
  have e2 := e 2 (by omega)
  have e3 := e 3 (by omega)
  rw [if_neg (by omega), k 0 (by omega)] at e0
  rw [if_neg (by omega), k 1 (by omega)] at e1
  rw [if_pos rfl] at e2
  rw [if_neg (by omega), k 3 (by omega), if_neg (by omega), g 3 (by omega)] at e3
  unfold wordAt
  rw [if_pos (by omega), if_pos (by omega), if_pos (by omega), if_pos (by omega), e0, e1, e2, e3]
  simp [bytes4]
  omega
theorem Seg.below {W W' : World} {B g d N c : Nat} {xs : List Int} {ex : List Ro} (h : Seg W B g d N c xs ex) (hb : Below W.heap.size W W') : Seg W' B g d N c xs ex := by
  obtain ⟨⟨tv, h1⟩, h2, h3, h4, h5⟩ := h
  exact ⟨⟨tv, h1.below hb⟩, Nat.le_trans h2 hb.size, h3, h4, h5⟩
theorem rpre {w : World} {B n m : Nat} {A : Option Addr} {xs ys : List Value} (h : Reads w B 1 A (n + m) (xs ++ ys)) (hx : xs.length = n) : Reads w B 1 A n xs := by
  refine ⟨by omega, fun hn => ?_⟩
  obtain ⟨ad, e, hb, hc⟩ := h.2 (by omega)
  exact ⟨ad, e, hb, fun j u hu => hc j u (by rw [List.getElem?_append_left (List.getElem?_eq_some_iff.1 hu).1]; exact hu)⟩
/-- a Shot -/
structure ShotV where
  bits : Int
  A : Option Addr
  n : Nat
  c : Nat
  zs : List Int
  at_ : Int
  v : Int
  far : Int
  m : Int
def shotCells (x : ShotV) : List Value := [.int .u8 x.bits, .slice x.A x.n x.c, .int .u32 x.at_, .int .u32 x.v, .int .u32 x.far, .int .u16 x.m]
structure ShotOk (w : World) (x : ShotV) : Prop where
  bits : 0 ≤ x.bits ∧ x.bits < 256
  at_ : 0 ≤ x.at_ ∧ x.at_ < 4294967296
  v : 0 ≤ x.v ∧ x.v < 4294967296
  far : 0 ≤ x.far ∧ x.far < 4294967296
  m : 0 ≤ x.m ∧ x.m < 65536
  seed : Reads w w.heap.size 1 x.A x.n (u8s x.zs)
  ok : bytesOk x.zs
  nc : x.n ≤ x.c
  cb : x.c ≤ 140737488351232

end Go.Proofs.Ytcfpclhoockcfaa
/-
  The walks of Clone and Copy; two segments side by side.
-/
namespace Go.Proofs.Ytcfpclhoockcfaa
set_option maxRecDepth 100000
open Go.RowKit

section
variable {W : World} {B g d N c g' d' N' c' : Nat} {xs ys : List Int} {tv' : Value} {ex : List Ro}
theorem pair_swap (h : Seg W B g d N c xs (memRows g' d' N' c' false tv' [] ys ++ ex)) (h1 : IsSeg N') (h2 : ys.length = N') (h3 : bytesOk ys) : ∃ tv, Seg W B g' d' N' c' ys (memRows g d N c false tv [] xs ++ ex) := by
  obtain ⟨⟨tv, hO⟩, hb, _⟩ := h
  refine ⟨tv, ⟨tv', hO.swap ?_⟩, hb, h1, h2, h3⟩
  rw [← List.append_assoc, ← List.append_assoc]
  exact List.perm_append_comm.append_right ex
theorem Write_own (a : Int) (o n : Nat) (bs : List Int) (h : Seg W B g d N c xs (outR o n n bs :: ex)) (h0 : 0 ≤ a) (h1 : a ≤ 4294967295) (hn : n ≤ 4096) (hbl : bs.length = n) (hok : bytesOk bs) :
    Calls Try.prog 57 #[.pointer (some ⟨g, 0, none⟩), .int .u32 a, .slice (some ⟨o, 0, none⟩) n n] W fun e W' => e = .returned (.int .i64 0) ∧ Seg W' B g d N c (puts N a bs xs n) (outR o n n bs :: ex) ∧ Below B W W' := by
  obtain ⟨⟨tv, hO⟩, h2, h3, h4, h5⟩ := h
  have hm := hide_ (made_any g d N c W (hO.cell (i := 0) rfl rfl) h3.pow.bd.1)
  have hw := hide_ (write_any (W := W) a (some ⟨o, 0, none⟩) n n bs hO h2 h3.pow h4 h0 h1 hbl hn (fun W1 _ _ _ ex' hO1 _ => Reads.of_own (hO1.1 (outR o n n bs) (by simp))))
  have d1 : decide ((4096 : Int) < (n : Int)) = false := by simp; omega
  have H4 := hide_ h4
  have H5 := hide_ h5
  clear hO h4 h5
  go_enter Try.func57, Try.ntmps57
  go_wp2_with (first
    | (go_at_call 59; refine hm.out.mono ?_; rintro e w' ⟨rfl, rfl⟩)
    | (go_at_call 65; refine hw.out.mono ?_; rintro e w4 ⟨rfl, tv4, hO4, hb4⟩))
  go_ret
  rw [notes_off] at hO4
  exact ⟨rfl, ⟨⟨tv4, hO4⟩, Nat.le_trans h2 hb4.size, h3, by rw [puts_len, H4.out], puts_ok hok H5.out _⟩, hb4⟩
end
end Go.Proofs.Ytcfpclhoockcfaa
/-
  The walks of mem's functions of a segment that is none: nil, or one that nobody made.
-/
namespace Go.Proofs.Ytcfpclhoockcfaa
set_option maxRecDepth 100000
open Go.RowKit

/-- nil, or a struct whose bytes are none -/
def NotMade (W : World) (P : Option Addr) : Prop := P = none ∨ ∃ g, P = some ⟨g, 0, none⟩ ∧ W.cell? ⟨g, 0, none⟩ = some (.slice none 0 0) ∧ g < W.heap.size
section
variable {W W' : World} {P Q : Option Addr}
theorem NotMade.below (h : NotMade W P) (hb : Below W.heap.size W W') : NotMade W' P := by
  rcases h with rfl | ⟨g, rfl, hc, hg⟩
  · exact .inl rfl
  · exact .inr ⟨g, rfl, (hb.cell hg).trans hc, Nat.lt_of_lt_of_le hg hb.size⟩
theorem NotMade.drewN (h : NotMade W P) (k : Nat) : NotMade (W.drewN k) P := h.below (below_draws2 (Below.refl _ _) k)
theorem made_not (h : NotMade W P) : Calls Try.prog 59 #[.pointer P] W fun e w' => e = .returned (.bool false) ∧ w' = W := by
  rcases h with rfl | ⟨g, rfl, hc, hg⟩
  · exact made_nil W
  · go_enter Try.func59, Try.ntmps59
    go_wp2
    go_ret
    exact ⟨rfl, rfl⟩
theorem load_not (a : Int) (n : Int) (h : NotMade W P) : Calls Try.prog 63 #[.pointer P, .int .u32 a, .int .i64 n] W fun e w' => e = .returned (.int .u32 0) ∧ Below W.heap.size W w' := by
  have hb : Below W.heap.size W ((W.alloc (.cells #[.pointer P] 28)).alloc (.cells #[.int .u8 0, .int .u8 0, .int .u8 0, .int .u8 0] 125)) := ((Below.refl _ _).alloc (Nat.le_refl _) _).alloc (by simp) _
  have hm := hide_ (made_not (h.below hb))
  have hor : bits .or .u32 0 0 = 0 := by decide
  have HB := hide_ hb
  clear h hb
  go_enter Try.func63, Try.ntmps63
  go_wp2_with (go_at_call 59; refine hm.out.mono ?_; rintro e w' ⟨rfl, rfl⟩)
  go_ret
  exact ⟨by simp, HB.out⟩
theorem Load4_not (a : Int) (h : NotMade W P) : Calls Try.prog 51 #[.pointer P, .int .u32 a] W fun e w' => e = .returned (.int .u32 0) ∧ Below W.heap.size W w' := by
  have hl := hide_ (load_not a 4 h)
  clear h
  go_enter Try.func51, Try.ntmps51
  go_wp2_with (go_at_call 63; refine hl.out.mono ?_; rintro e w' ⟨rfl, hb⟩)
  go_ret
  exact ⟨rfl, hb⟩
theorem Bits_not (h : NotMade W P) : Calls Try.prog 50 #[.pointer P] W fun e w' => e = .returned (.int .i64 0) ∧ Below W.heap.size W w' := by
  have hm := hide_ (fun q : Nat => made_not (h.drewN q))
  clear h
  go_enter Try.func50, Try.ntmps50
  go_wp2
  go_loopw [3] (fun i wr => i = .int .i64 0 ∧ wr = W) (fun i _ => 0)
  case atStart => exact ⟨rfl, rfl⟩
  case round =>
    obtain ⟨rfl, rfl⟩ := hrel
    go_wp2
    go_quiet ((go_at_call 59; exact Calls.quiet_of_same (hm.out _)))
    go_wp2
    go_ret
    exact ⟨rfl, below_draws2 (Below.refl _ _) _⟩
theorem Write_not (a : Int) (A : Option Addr) (n c : Nat) (h : NotMade W P) : Calls Try.prog 57 #[.pointer P, .int .u32 a, .slice A n c] W fun e w' => e = .returned (.int .i64 1) ∧ Below W.heap.size W w' := by
  have hm := hide_ (made_not h)
  clear h
  go_enter Try.func57, Try.ntmps57
  go_wp2_with (go_at_call 59; refine hm.out.mono ?_; rintro e w' ⟨rfl, rfl⟩)
  go_ret
  exact ⟨rfl, Below.refl _ _⟩
theorem Bytes_not (h : NotMade W P) : Calls Try.prog 44 #[.pointer P] W fun e w' => e = .returned (.slice none 0 0) ∧ Below W.heap.size W w' := by
  have hm := hide_ (made_not h)
  clear h
  go_enter Try.func44, Try.ntmps44
  go_wp2_with (go_at_call 59; refine hm.out.mono ?_; rintro e w' ⟨rfl, rfl⟩)
  go_ret
  exact ⟨rfl, Below.refl _ _⟩
theorem chain {f : FuncId} {args : Array Value} {E : Ending} {P : Option Addr} {W W1 : World} (h : NotMade W P) (hb : Below W.heap.size W W1) (hc : NotMade W1 P → Calls Try.prog f args W1 fun e w' => e = E ∧ Below W1.heap.size W1 w') :
    Calls Try.prog f args W1 fun e w' => e = E ∧ Below W.heap.size W w' := by
  refine (hc (h.below hb)).mono ?_
  rintro e w' ⟨rfl, hb'⟩
  exact ⟨rfl, hb.trans (hb'.mono hb.size)⟩
end
end Go.Proofs.Ytcfpclhoockcfaa
/-
  The walk of the statement MemNil.
-/
namespace Go.Proofs.Ytcfpclhoockcfaa
set_option maxRecDepth 100000
open Go.RowKit

end Go.Proofs.Ytcfpclhoockcfaa
/-
  The walks of Log and Touched; the errors of New, From, Read.
-/
namespace Go.Proofs.Ytcfpclhoockcfaa
set_option maxRecDepth 100000
open Go.RowKit

section
variable {W : World} {B g d N c : Nat} {logs : Bool} {tv : Value} {ts : List (Int × Bool)} {xs : List Int} {ex : List Ro}
end
end Go.Proofs.Ytcfpclhoockcfaa
