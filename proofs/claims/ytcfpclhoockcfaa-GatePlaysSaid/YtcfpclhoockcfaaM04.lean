/-
  The walk of playpenkit.LentReply.
-/
import Derived.Deep.RegionHeld3
import Derived.Test.YtcfpclhoockcfaaM03
namespace Go.Proofs.Ytcfpclhoockcfaa
open Go.RowKit

/-- the bytes of a write, lent -/
noncomputable def lentRow (ws : Nat → Wr) (zs : Nat → List Int) (vs : Nat → Value) (j : Nat) : Ro := ⟨5, 1, vs j, (ws j).n + 64, u8s (zs j ++ marks8 0 0 64)⟩
def cutV : Value → Nat → Value
  | .slice A _ c, m => .slice A m c
  | v, _ => v
def wCells (ws : Nat → Wr) (vs : Nat → Value) (k : Nat) : List Value := (List.range k).flatMap fun j => [.int .u32 (ws j).at_, cutV (vs j) (ws j).n]
theorem wCells_succ (ws : Nat → Wr) (vs : Nat → Value) (k : Nat) : wCells ws vs (k + 1) = wCells ws vs k ++ [.int .u32 (ws k).at_, cutV (vs k) (ws k).n] := by simp [wCells, List.range_succ]
def tails (i : Nat) : List Value := (List.range i).flatMap fun (j : Nat) => [.int .u32 (77 + (j : Int)), .slice none 0 0]
theorem tails_succ (i : Nat) : tails (i + 1) = tails i ++ [.int .u32 (77 + (i : Int)), .slice none 0 0] := by simp [tails, List.range_succ]
def updV (vs : Nat → Value) (k : Nat) (x : Value) : Nat → Value := fun j => if j = k then x else vs j
theorem wCells_upd (ws : Nat → Wr) (vs : Nat → Value) (k : Nat) (x : Value) : wCells ws (updV vs k x) k = wCells ws vs k := by
  have key : ∀ m, m ≤ k → wCells ws (updV vs k x) m = wCells ws vs m := by
    intro m
    induction m with
    | zero => intro _; rfl
    | succ m ih => intro hm; rw [wCells_succ, wCells_succ, ih (by omega), show updV vs k x m = vs m by unfold updV; rw [if_neg (by omega)]]
  exact key k (Nat.le_refl _)
theorem map_upd (vs : Nat → Value) (k : Nat) (x : Value) : (List.range k).map (updV vs k x) = (List.range k).map vs :=
  List.map_congr_left (fun j hj => by unfold updV; rw [if_neg (by have := List.mem_range.1 hj; omega)])
theorem rowsF_upd (ws : Nat → Wr) (zs : Nat → List Int) (vs : Nat → Value) (k : Nat) (x : Value) : rowsF k (lentRow ws zs (updV vs k x)) = rowsF k (lentRow ws zs vs) :=
  rowsF_congr fun j hj => by unfold lentRow updV; rw [if_neg (by omega)]
theorem rowsF_succ (r : Nat → Ro) (k : Nat) : rowsF (k + 1) r = rowsF k r ++ [r k] := by simp [rowsF, List.range_succ]
/-- the rows while the reply is lent -/
noncomputable def lentRows (b : Nat) (v : Int) (A : Option Addr) (n c : Nat) (ws : Nat → Wr) (zs : Nat → List Int) (vs : Nat → Value) (fv wv : Value) (k m i r : Nat) : List Ro :=
  [⟨43, 1, .slice (some ⟨b, 0, none⟩) 2 2, 2, [.int .u32 v, .slice A n c]⟩,
   ⟨81, 1, .slice (some ⟨b + 1, 0, none⟩) 3 3, 3, [.int .u32 0, .slice none 0 0, .slice none 0 0]⟩,
   ⟨81, 1, .slice (some ⟨b + 1 + 1, 0, none⟩) 3 3, 3, [.int .u32 0, .slice none 0 0, fv]⟩,
   ⟨23, 1, fv, k, (List.range k).map vs⟩,
   ⟨104, 2, wv, m + i, wCells ws vs m ++ tails i⟩] ++ rowsF r (lentRow ws zs vs)
section
variable {b : Nat} {v : Int} {A : Option Addr} {n c : Nat} {ws : Nat → Wr} {zs : Nat → List Int} {vs : Nat → Value} {fv wv fv' wv' : Value}
theorem lr_push {k : Nat} (x : Value) : lentRows b v A n c ws zs (updV vs k x) fv wv k k 0 (k + 1) = lentRows b v A n c ws zs vs fv wv k k 0 k ++ [lentRow ws zs (updV vs k x) k] := by
  unfold lentRows
  rw [rowsF_succ, rowsF_upd, map_upd, wCells_upd, List.append_assoc]
theorem lr_full {k m i r : Nat} : ((lentRows b v A n c ws zs vs fv wv k m i r).set 3 ⟨23, 1, fv', k + 1, (List.range k).map vs ++ [vs k]⟩).set 2
    ⟨81, 1, .slice (some ⟨b + 1 + 1, 0, none⟩) 3 3, 3, [.int .u32 0, .slice none 0 0, fv']⟩ = lentRows b v A n c ws zs vs fv' wv (k + 1) m i r := by
  unfold lentRows
  rw [List.range_succ, List.map_append]
  rfl
theorem lr_write {f k r : Nat} : (lentRows b v A n c ws zs vs fv wv f k 0 r).set 4 ⟨104, 2, wv', k + 0 + 1, (wCells ws vs k ++ tails 0) ++ [.int .u32 (ws k).at_, cutV (vs k) (ws k).n]⟩ =
    lentRows b v A n c ws zs vs fv wv' f (k + 1) 0 r := by
  have e : (wCells ws vs k ++ tails 0) ++ [.int .u32 (ws k).at_, cutV (vs k) (ws k).n] = wCells ws vs (k + 1) ++ tails 0 := by rw [wCells_succ]; simp [tails]
  rw [e]
  rfl
theorem lr_tail {f m i r : Nat} : (lentRows b v A n c ws zs vs fv wv f m i r).set 4 ⟨104, 2, wv', m + i + 1, (wCells ws vs m ++ tails i) ++ [.int .u32 (77 + (i : Int)), .slice none 0 0]⟩ =
    lentRows b v A n c ws zs vs fv wv' f m (i + 1) r := by
  rw [List.append_assoc, ← tails_succ]
  rfl
end
theorem Owns.nilrow {w : World} {B : Nat} {rs : List Ro} (h : Owns w B rs) (e : TypeId) (size : Nat) : Owns w B (rs ++ [⟨e, size, .slice none 0 0, 0, []⟩]) := by
  refine ⟨fun r hr => ?_, ?_⟩
  · rcases List.mem_append.1 hr with hr | hr
    · exact h.1 r hr
    · rw [List.mem_singleton.1 hr]
      exact World.ownsRow_nil _ _ _ _
  · rw [List.pairwise_append]
    refine ⟨h.2, List.pairwise_singleton _ _, fun r _ s hs => ?_⟩
    rw [List.mem_singleton.1 hs]
    cases hv : r.v.ownBlock with
    | none => exact .inl rfl
    | some k => right; simp [Value.ownBlock]
theorem step_append_owns {P : Program} (w : World) {ops : Array Oper} {o : Oper} {a : Act} {K : Act → World → Prop} {Q : Exit → Act → World → Prop} {E : Prop} (hgd : o.guard = none) (s x : Operand) (t : TypeId)
    (ho : o.op = .call { callee := .builtin .append, args := #[s, x], argTypes := #[t, t] })
    (B : Nat) (rs : List Ro) (k : Nat) (e : TypeId) (size : Nat) (v : Value) (n : Nat) (xs : List Value) (hr : rs[k]? = some ⟨e, size, v, n, xs⟩) (hO : Owns w B rs) (hB : B ≤ w.heap.size)
    (i : TypeInfo) (z : Value) (bytes : Nat) (ht : P.underlying t = some (.slice e)) (hi : P.info? e = some i) (hz : i.zero = some z)
    (hsize : i.size = size) (hby : i.bytes = bytes) (hzs : z.cells.size = size) (hsz : 0 < size)
    (hs : a.eval s = v)
    (B' : Nat) (A : Option Addr) (m c : Nat) (news : List Value) (hx : a.eval x = .slice A m c) (hn : Reads w B' size A m news) (h1 : ∀ u ∈ news, u.oneCell' = true)
    (h63 : n + m ≤ maxLen) (hbytes : (n + m) * bytes ≤ 140737488355328)
    (h : ∀ v' w', Owns w' B (rs.set k ⟨e, size, v', n + m, xs ++ news⟩) → Below B w w' → w.heap.size ≤ w'.heap.size → K (a.put o.dst v') w') :
    if Region.wanted o (yielded ops a.tmps) = true then Oper.wp P o a w K Q else E := by
  have hw : Region.wanted o (yielded ops a.tmps) = true := by simp [Region.wanted, hgd]
  rw [if_pos hw]
  refine wp_append_any w s x t ho B e i z size bytes ht hi hz hsize hby hzs hsz v n xs hs (hO.at_ hr) B' A m c news hx hn h1 h63 hbytes hB ?_
  intro v' w' hown hg hat
  refine h v' w' (hO.turn hr hg hown ?_) ((Below.refl _ _).grown hg hB (fun j hj => (hO.lt_ (List.mem_of_getElem? hr) hj).1)) hg.size
  rcases hat with h2 | h2
  · exact .inl h2
  · exact .inr (.inr ⟨_, h2, Nat.le_refl _⟩)
theorem lent_size : (Try.prog.info? 81).map (·.size) = some 3 := by kernel_rfl
theorem lent_u8s : (Try.prog.info? 23).map (fun i => (i.zero, i.size, i.bytes)) = some (some (.slice none 0 0), 1, 24) := by kernel_rfl
theorem lent_write : (Try.prog.info? 104).map (fun i => (i.zero, i.size, i.bytes)) = some (some (.agg #[.int .u32 0, .slice none 0 0]), 2, 32) := by kernel_rfl

set_option maxRecDepth 100000 in
set_option maxHeartbeats 1000000 in
theorem LentReply_any (v : Int) (A : Option Addr) (n c : Nat) (ws : Nat → Wr) (zs : Nat → List Int) (w : World) (h : WReads w w.heap.size A n ws) (hn : n * 32 ≤ 140737488351232)
    (hz : ∀ j, j < n → Reads w w.heap.size 1 (ws j).A (ws j).n (u8s (zs j)) ∧ (ws j).n ≤ 140737488351232 ∧ (ws j).n ≤ (ws j).c) :
    Calls Try.prog 34 #[.agg #[.int .u32 v, .slice A n c]] w fun e w' => ∃ vs Af cf Aw cw, e = .returned (.agg #[.int .u32 v, .slice Aw n cw, .slice Af n cf]) ∧ n + 4 ≤ cw ∧
      Owns w' w.heap.size ([⟨23, 1, .slice Af n cf, n, (List.range n).map vs⟩, ⟨104, 2, .slice Aw (n + 4) cw, n + 4, wCells ws vs n ++ tails 4⟩] ++ rowsF n (lentRow ws zs vs)) ∧ Below w.heap.size w w' := by
  obtain ⟨i0, hi0, hz0, hz1, hz2⟩ := info_parts lent_u8s
  obtain ⟨i1, hi1, hy0, hy1, hy2⟩ := info_parts lent_write
  have HZ := hide_ hz
  clear hz
  have h0O : Owns (((w.alloc (.cells #[.int .u32 v, .slice A n c] 43)).alloc (.cells #[.int .u32 0, .slice none 0 0, .slice none 0 0] 81)).alloc (.cells #[.int .u32 0, .slice none 0 0, .slice none 0 0] 81)) w.heap.size
      (lentRows w.heap.size v A n c ws zs (fun _ => .slice none 0 0) (.slice none 0 0) (.slice none 0 0) 0 0 0 0) := by
    have h1 := ((Owns.nil_ (w := w) (B := w.heap.size)).box 43 #[.int .u32 v, .slice A n c] (Nat.le_refl _) (show 2 ≤ maxLen by unfold maxLen; decide))
    have h2 := h1.box 81 #[.int .u32 0, .slice none 0 0, .slice none 0 0] (by simp) (show 3 ≤ maxLen by unfold maxLen; decide)
    have h3 := h2.box 81 #[.int .u32 0, .slice none 0 0, .slice none 0 0] (by simp; omega) (show 3 ≤ maxLen by unfold maxLen; decide)
    have h4 := (h3.nilrow 23 1).nilrow 104 2
    simpa [lentRows, rowsF, wCells, tails] using h4
  have h0B : Below w.heap.size w (((w.alloc (.cells #[.int .u32 v, .slice A n c] 43)).alloc (.cells #[.int .u32 0, .slice none 0 0, .slice none 0 0] 81)).alloc (.cells #[.int .u32 0, .slice none 0 0, .slice none 0 0] 81)) :=
    (((Below.refl _ _).alloc (Nat.le_refl _) _).alloc (by simp) _).alloc (by simp; omega) _
  have H0O := hide_ h0O
  have H0B := hide_ h0B
  clear h0O h0B
  go_enter Try.func34, Try.ntmps34
  go_wp2
  go_loopw [4, 5] (fun wv i wr => ∃ (k : Nat) (vs : Nat → Value) (fv : Value), k ≤ n ∧ i = .int .i64 k ∧ Owns wr w.heap.size (lentRows w.heap.size v A n c ws zs vs fv wv k k 0 k) ∧ Below w.heap.size w wr) (fun _ i _ => n - (intOf i).toNat)
  case atStart => exact ⟨0, _, _, Nat.zero_le _, rfl, H0O.out, H0B.out⟩
  case round =>
    obtain ⟨k, vs, fv, hk, rfl, hO, hbl⟩ := hrel
    have hsz := hbl.size
    have c1 : wr.cell? ⟨w.heap.size, 1, none⟩ = some (.slice A n c) := hO.cell (i := 0) rfl rfl
    have b1 : w.heap.size < wr.heap.size := (hO.base (i := 0) rfl).2
    by_cases hlt : k < n
    · obtain ⟨ad, rfl, hb, hc0, hc1⟩ := (h.below hbl).at_ hlt
      obtain ⟨hzk, hn5, hc5⟩ := HZ.out k hlt
      have hb' : (ad.add (k * 2)).block < wr.heap.size := by omega
      have hl := hide_ (LentBytes_any (ws k).A (ws k).n (ws k).c (zs k) wr.heap.size wr ((hzk.below hbl).more hsz) (Nat.le_refl _) hn5)
      have HO := hide_ hO
      have HBL := hide_ hbl
      clear hzk hO hbl
      go_wp2_with (go_at_call 53; refine hl.out.mono ?_)
      rintro e w1 ⟨nv, rfl, hown, hb1⟩
      obtain ⟨A5, c5, rfl, hl5, hm5⟩ := ownsRow_slice hown
      obtain ⟨Af, cf, hfv, _, _⟩ := ownsRow_slice (HO.out.at_ (i := 3) rfl)
      simp only at hfv
      subst hfv
      have hv5 : updV vs k (.slice A5 ((ws k).n + 64) c5) k = .slice A5 ((ws k).n + 64) c5 := by simp [updV]
      have hO1 := HO.out.push hb1 (r := lentRow ws zs (updV vs k (.slice A5 ((ws k).n + 64) c5)) k) (by unfold lentRow; rw [hv5]; exact hown) hsz
      rw [← lr_push] at hO1
      have c2 : w1.cell? ⟨w.heap.size + 1 + 1, 2, none⟩ = some (.slice Af k cf) := hO1.cell (i := 2) rfl rfl
      have b2 : w.heap.size + 1 + 1 < w1.heap.size := (hO1.base (i := 2) rfl).2
      have hbl1 : Below w.heap.size w w1 := HBL.out.trans (hb1.mono hsz)
      have hsz1 := hbl1.size
      have HV5 := hide_ hv5
      have HBL1 := hide_ hbl1
      clear hown hb1 hbl1 c1 b1 hsz hb' hv5 hc0 hc1 hb hl
      go_wp2_with (at_builtin; refine wpList_append_owns _ rfl (.tmp 23) (.tmp 25) 79 rfl w.heap.size _ 3 23 1 (.slice Af k cf) k _ rfl (hO1.alloc _) (by simp; omega) i0 _ 24 Try.underlying79 hi0 hz0 hz1 hz2 rfl (by omega) rfl _ _ 1 1 [.slice A5 ((ws k).n + 64) c5] rfl (reads_new w1 23 1 1 [.slice A5 ((ws k).n + 64) c5] rfl) (by simp [Value.oneCell']) (by simp only [maxLen]; omega) (by omega) ?_)
      intro fv' w2 hO2 hb2 hsz2
      obtain ⟨Af2, cf2, hfv2, _, _⟩ := ownsRow_slice (hO2.at_ (i := 3) rfl)
      simp only at hfv2
      subst hfv2
      have c3 : w2.cell? ⟨w.heap.size + 1 + 1, 2, none⟩ = some (.slice Af k cf) := hO2.cell (i := 2) rfl rfl
      have f3 := hO2.frozen (i := 2) rfl 2
      have b3 : w.heap.size + 1 + 1 < w2.heap.size := (hO2.base (i := 2) rfl).2
      have hO3 := hO2.store (i := 2) (e := 81) (size := 1) (n := 3) (g := w.heap.size + 1 + 1) (c := 3) (j := 2) rfl (by simp) (.slice Af2 (k + 1) cf2)
      have hbl3 : Below w.heap.size w (w2.setCell ⟨w.heap.size + 1 + 1, 2, none⟩ (.slice Af2 (k + 1) cf2)) := ((HBL1.out.alloc hsz1 _).trans hb2).setCell (by simp; omega) _
      have HO3 := hide_ hO3
      have HBL3 := hide_ hbl3
      clear hO3 hbl3 hO2 hb2 hO1 c2 b2
      go_wp2
      generalize w2.setCell ⟨w.heap.size + 1 + 1, 2, none⟩ (.slice Af2 (k + 1) cf2) = w3 at HO3 HBL3 ⊢
      clear c3 f3 b3 hsz2 hsz1 HBL1 HO HBL
      have hO3 := HO3.out
      have hlr := lr_full (b := w.heap.size) (v := v) (A := some ad) (n := n) (c := c) (ws := ws) (zs := zs) (vs := updV vs k (.slice A5 ((ws k).n + 64) c5)) (fv := .slice Af k cf) (fv' := .slice Af2 (k + 1) cf2) (wv := u4) (k := k) (m := k) (i := 0) (r := k + 1)
      rw [HV5.out] at hlr
      have hO4 : Owns w3 w.heap.size (lentRows w.heap.size v (some ad) n c ws zs (updV vs k (.slice A5 ((ws k).n + 64) c5)) (.slice Af2 (k + 1) cf2) u4 (k + 1) k 0 (k + 1)) := by rw [← hlr]; exact hO3
      obtain ⟨Aw, cw, hwv, _, _⟩ := ownsRow_slice (hO4.at_ (i := 4) rfl)
      simp only [Nat.add_zero] at hwv
      subst hwv
      have HO4 := hide_ hO4
      have c4 : w3.cell? ⟨w.heap.size, 1, none⟩ = some (.slice (some ad) n c) := hO4.cell (i := 0) rfl rfl
      have b4 : w.heap.size < w3.heap.size := (hO4.base (i := 0) rfl).2
      obtain ⟨ad2, had2, hb2, hc0, hc1⟩ := (h.below HBL3.out).at_ hlt
      injection had2 with had2
      subst had2
      have hb3 : (ad.add (k * 2)).block < w3.heap.size := by omega
      have s0 : (0 : Int) ≤ ((ws k).n : Int) := by omega
      have s1 : ((ws k).n : Int) ≤ (c5 : Int) := by have : (ws k).n + 64 ≤ c5 := hl5; omega
      clear hO3 hO4 hlr HO3
      go_region_held3 (fun w' => w'.cell? ⟨w.heap.size, 1, none⟩ = some (.slice (some ad) n c) ∧ w'.cell? (ad.add (k * 2)) = some (.int .u32 (ws k).at_) ∧ w'.cell? ⟨(ad.add (k * 2)).block, (ad.add (k * 2)).off + 1, none⟩ = some (.slice (ws k).A (ws k).n (ws k).c))
        (first
          | go_keep
          | exact ⟨hO9.cell (i := 0) rfl rfl, ((hb9.cell hb2).trans (World.cell?_alloc_lt w3 _ _ hb3)).trans hc0, ((hb9.cell (p := ⟨(ad.add (k * 2)).block, (ad.add (k * 2)).off + 1, none⟩) hb2).trans (World.cell?_alloc_lt w3 _ ⟨(ad.add (k * 2)).block, (ad.add (k * 2)).off + 1, none⟩ hb3)).trans hc1⟩)
        ((refine step_append_owns _ (by rfl) _ _ _ (by rfl) w.heap.size _ 4 104 2 (.slice Aw k cw) k _ rfl ((HO4.out.alloc _).drew) (by simp; omega) i1 _ 32 Try.underlying41 hi1 hy0 hy1 hy2 rfl (by omega) (by rfl) _ _ 1 1 [.int .u32 (ws k).at_, .slice A5 (ws k).n c5] (by rfl) (reads_new w3 104 2 1 [.int .u32 (ws k).at_, .slice A5 (ws k).n c5] rfl) (by simp [Value.oneCell']) (by simp only [maxLen]; omega) (by omega) ?_; intro v9 w9 hO9 hb9 hsz9))
      have hlw := lr_write (b := w.heap.size) (v := v) (A := some ad) (n := n) (c := c) (ws := ws) (zs := zs) (vs := updV vs k (.slice A5 ((ws k).n + 64) c5)) (fv := .slice Af2 (k + 1) cf2) (wv := .slice Aw k cw) (wv' := v9) (f := k + 1) (k := k) (r := k + 1)
      rw [HV5.out] at hlw
      have hO10 : Owns w9 w.heap.size (lentRows w.heap.size v (some ad) n c ws zs (updV vs k (.slice A5 ((ws k).n + 64) c5)) (.slice Af2 (k + 1) cf2) v9 (k + 1) (k + 1) 0 (k + 1)) := by rw [← hlw]; exact hO9
      have hB10 : Below w.heap.size w w9 := ((HBL3.out.alloc (by omega) _).drew).trans hb9
      have HO10 := hide_ hO10
      clear hO9 hb9 hO10 hlw hc0 hc1 c4 hb2 hb3
      go_wp2
      go_roundw
      case rel => exact ⟨k + 1, _, _, by omega, by go_num, HO10.out, hB10⟩
      case measure => simp [intOf]; omega
    · obtain rfl : k = n := by omega
      have HO := hide_ hO
      clear hO
      go_wp2
      go_loopw [4, 7] (fun wv i wr => ∃ (i' : Nat), i' ≤ 4 ∧ i = .int .i64 i' ∧ Owns wr w.heap.size (lentRows w.heap.size v A k c ws zs vs fv wv k k i' k) ∧ Below w.heap.size w wr) (fun _ i _ => 4 - (intOf i).toNat)
      case atStart => exact ⟨0, Nat.zero_le _, rfl, HO.out, hbl⟩
      case round =>
        clear HO hbl b1 c1 hsz
        obtain ⟨i, hi, rfl, hO, hbl⟩ := hrel
        obtain ⟨Aw, cw, hwv, hcw, hcm⟩ := ownsRow_slice (hO.at_ (i := 4) rfl)
        simp only at hwv
        subst hwv
        have hsz := hbl.size
        by_cases hlt2 : i < 4
        · go_wp2_with (at_builtin; refine wpList_append_owns _ rfl (.tmp 51) (.tmp 56) 41 rfl w.heap.size _ 4 104 2 (.slice Aw (k + i) cw) (k + i) _ rfl (hO.alloc _) (by simp; omega) i1 _ 32 Try.underlying41 hi1 hy0 hy1 hy2 rfl (by omega) rfl _ _ 1 1 [.int .u32 (77 + (i : Int)), .slice none 0 0] rfl (reads_new wr 104 2 1 [.int .u32 (77 + (i : Int)), .slice none 0 0] rfl) (by simp [Value.oneCell']) (by simp only [maxLen]; omega) (by omega) ?_)
          intro v9 w9 hO9 hb9 hsz9
          have hlt := lr_tail (b := w.heap.size) (v := v) (A := A) (n := k) (c := c) (ws := ws) (zs := zs) (vs := vs) (fv := fv) (wv := .slice Aw (k + i) cw) (wv' := v9) (f := k) (m := k) (i := i) (r := k)
          have hO10 : Owns w9 w.heap.size (lentRows w.heap.size v A k c ws zs vs fv v9 k k (i + 1) k) := by rw [← hlt, List.append_assoc]; exact hO9
          clear hlt hO9
          go_wp2
          have hB9 : Below w.heap.size w w9 := (hbl.alloc hsz _).trans hb9
          go_roundw
          case rel => exact ⟨i + 1, by omega, by go_num, hO10, hB9⟩
          case measure => simp [intOf]; omega
        · obtain rfl : i = 4 := by omega
          obtain ⟨Af, cf, hfv, _, _⟩ := ownsRow_slice (hO.at_ (i := 3) rfl)
          simp only at hfv
          subst hfv
          have c1 : wr.cell? ⟨w.heap.size, 1, none⟩ = some (.slice A k c) := hO.cell (i := 0) rfl rfl
          have c0 : wr.cell? ⟨w.heap.size, 0, none⟩ = some (.int .u32 v) := hO.cell (i := 0) rfl rfl
          have b1 : w.heap.size < wr.heap.size := (hO.base (i := 0) rfl).2
          have f2 := hO.frozen (i := 2) rfl 0
          have f3 := hO.frozen (i := 2) rfl 1
          have d0 : wr.cell? ⟨w.heap.size + 1 + 1, 0, none⟩ = some (.int .u32 0) := hO.cell (i := 2) rfl rfl
          have d1 : wr.cell? ⟨w.heap.size + 1 + 1, 1, none⟩ = some (.slice none 0 0) := hO.cell (i := 2) rfl rfl
          have d2 : wr.cell? ⟨w.heap.size + 1 + 1, 2, none⟩ = some (.slice Af k cf) := hO.cell (i := 2) rfl rfl
          have b2 : w.heap.size + 1 + 1 < wr.heap.size := (hO.base (i := 2) rfl).2
          have s0 : (0 : Int) ≤ (k : Int) := by omega
          have s1 : (k : Int) ≤ (cw : Int) := by have : k + 4 ≤ cw := hcw; omega
          have keepc : ∀ (u1 u2 : Value) (q : Addr), q.block = w.heap.size → ((wr.setCell ⟨w.heap.size + 1 + 1, 0, none⟩ u1).setCell ⟨w.heap.size + 1 + 1, 1, none⟩ u2).cell? q = wr.cell? q := fun u1 u2 q hq =>
            (World.cell?_setCell_other _ _ q _ (fun e => by subst e; simp only at hq; omega)).trans (World.cell?_setCell_other _ _ q _ (fun e => by subst e; simp only at hq; omega))
          go_wp2
          go_region_held3 (fun w' => w'.cell? ⟨w.heap.size, 1, none⟩ = some (.slice A k c) ∧ w'.cell? ⟨w.heap.size, 0, none⟩ = some (.int .u32 v)) (first | go_keep | exact ⟨(keepc _ _ _ rfl).trans c1, (keepc _ _ _ rfl).trans c0⟩) (fail)
          have hO5 := (((hO.store (i := 2) (e := 81) (size := 1) (n := 3) (g := w.heap.size + 1 + 1) (c := 3) (j := 0) rfl (by simp) (.int .u32 v)).store (i := 2) (e := 81) (size := 1) (n := 3) (g := w.heap.size + 1 + 1) (c := 3) (j := 1) rfl (by simp) (.slice Aw k cw))).drew
          have hB5 : Below w.heap.size w ((wr.setCell ⟨w.heap.size + 1 + 1, 0, none⟩ (.int .u32 v)).setCell ⟨w.heap.size + 1 + 1, 1, none⟩ (.slice Aw k cw)).drew := ((hbl.setCell (by simp; omega) _).setCell (by simp; omega) _).drew
          generalize ((wr.setCell ⟨w.heap.size + 1 + 1, 0, none⟩ (.int .u32 v)).setCell ⟨w.heap.size + 1 + 1, 1, none⟩ (.slice Aw k cw)).drew = w5 at hO5 hB5 ⊢
          clear hO hbl c0 c1 b1 f2 f3 d0 d1 d2 b2 keepc hsz
          have d0 : w5.cell? ⟨w.heap.size + 1 + 1, 0, none⟩ = some (.int .u32 v) := hO5.cell (i := 2) rfl rfl
          have d1 : w5.cell? ⟨w.heap.size + 1 + 1, 1, none⟩ = some (.slice Aw k cw) := hO5.cell (i := 2) rfl rfl
          have d2 : w5.cell? ⟨w.heap.size + 1 + 1, 2, none⟩ = some (.slice Af k cf) := hO5.cell (i := 2) rfl rfl
          have e0 : w5.cell? ⟨w.heap.size + 1, 0, none⟩ = some (.int .u32 0) := hO5.cell (i := 1) rfl rfl
          have e1 : w5.cell? ⟨w.heap.size + 1, 1, none⟩ = some (.slice none 0 0) := hO5.cell (i := 1) rfl rfl
          have e2 : w5.cell? ⟨w.heap.size + 1, 2, none⟩ = some (.slice none 0 0) := hO5.cell (i := 1) rfl rfl
          have g0 := hO5.frozen (i := 1) rfl 0
          have g1 := hO5.frozen (i := 1) rfl 1
          have g2 := hO5.frozen (i := 1) rfl 2
          have b2 : w.heap.size + 1 + 1 < w5.heap.size := (hO5.base (i := 2) rfl).2
          have hO6 := ((hO5.store (i := 1) (e := 81) (size := 1) (n := 3) (g := w.heap.size + 1) (c := 3) (j := 0) rfl (by simp) (.int .u32 v)).store (i := 1) (e := 81) (size := 1) (n := 3) (g := w.heap.size + 1) (c := 3) (j := 1) rfl (by simp) (.slice Aw k cw)).store (i := 1) (e := 81) (size := 1) (n := 3) (g := w.heap.size + 1) (c := 3) (j := 2) rfl (by simp) (.slice Af k cf)
          have hB6 := ((hB5.setCell (p := ⟨w.heap.size + 1, 0, none⟩) (by simp) (.int .u32 v)).setCell (p := ⟨w.heap.size + 1, 1, none⟩) (by simp) (.slice Aw k cw)).setCell (p := ⟨w.heap.size + 1, 2, none⟩) (by simp) (.slice Af k cf)
          have HO6 := hide_ hO6
          have HB6 := hide_ hB6
          clear hO6 hB6 hO5 hB5
          go_wp2
          have hblk := own_blk (HO6.out.at_ (i := 1) rfl)
          refine bodyPost_ret (results_cell_row rfl _ _ (w.heap.size + 1) _ _ _ _ rfl hblk Try.underlying81 rfl lent_size) rfl ?_
          exact ⟨vs, Af, cf, Aw, cw, rfl, hcw, HO6.out.sub (.cons _ (.cons _ (.cons _ (.refl _)))), HB6.out⟩
end Go.Proofs.Ytcfpclhoockcfaa
