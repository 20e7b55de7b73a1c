/-
  The plain law of a text's cutting into runes: no program in sight. 'cuts s': the places and numbers.
-/
import Derived.WalkKit
import Derived.PlainAid
import Derived.Lib.DecodeN
import Derived.WalkSpells
import Derived.WalkLawsBesides
import Derived.Below
import Derived.Laws.OwnMore
import Derived.Deep.AppendLies
import Derived.Deep.Draws
import Derived.Laws.Rows
import Derived.Maps.AppendAt
import Derived.RegionTactic
import Derived.OwnWalk
import Derived.Deep.QuietTactic
import Derived.BigQuiet
namespace Go.Proofs.Ytcfpclhoockcfaa
set_option maxRecDepth 100000
open Go.RowKit Go.PlainAid

/-- byte k of a string, as a natural number; 0 behind its end -/
def bn (s : ByteArray) (k : Nat) : Nat := (s.get! k).toNat
theorem bn_lt (s : ByteArray) (k : Nat) : bn s k < 256 := (s.get! k).toNat_lt
theorem get!_eq (s : ByteArray) (k : Nat) (h : k < s.size) : s.get! k = s[k]'h := by
  have := get_at s k h
  simpa using this
theorem bn_eq (s : ByteArray) (k : Nat) (h : k < s.size) : (s[k]'h).toNat = bn s k := by
  unfold bn
  rw [get!_eq s k h]
theorem bt_eq (s : ByteArray) (k : Nat) (h : k < s.size) : bt s k = (bn s k : Int) := by
  rw [← get_bt s k h, bn_eq s k h]

/-- the byte at a place belongs to no rune -/
def lost (s : ByteArray) (i : Nat) : Prop := (Utf8.decode s i).1 = 65533 ∧ (Utf8.decode s i).2 = 1
instance (s : ByteArray) (i : Nat) : Decidable (lost s i) := inferInstanceAs (Decidable (_ ∧ _))
/-- what is told at a place: the number, and how many bytes -/
def cutR (s : ByteArray) (i : Nat) : Int := if lost s i then -1 - (bn s i : Int) else ((Utf8.decode s i).1 : Int)
def cutN (s : ByteArray) (i : Nat) : Nat := (Utf8.decode s i).2

def cutsF (s : ByteArray) : Nat → Nat → List (Nat × Int)
  | 0, _ => []
  | f + 1, i => if i < s.size then (i, cutR s i) :: cutsF s f (i + cutN s i) else []
def cuts (s : ByteArray) : List (Nat × Int) := cutsF s s.size 0

theorem decodeN_pos (n b0 b1 b2 b3 : Nat) : 1 ≤ (Lib.decodeN n b0 b1 b2 b3).2 := by
  unfold Lib.decodeN
  repeat' split
  all_goals simp
theorem decodeN_fits (n b0 b1 b2 b3 : Nat) (hn : 1 ≤ n) : (Lib.decodeN n b0 b1 b2 b3).2 ≤ n := by
  unfold Lib.decodeN
  repeat' split
  all_goals simp
  all_goals omega
theorem decodeN_rune (n b0 b1 b2 b3 : Nat) : (Lib.decodeN n b0 b1 b2 b3).1 ≤ 1114111 ∧ ¬ (55296 ≤ (Lib.decodeN n b0 b1 b2 b3).1 ∧ (Lib.decodeN n b0 b1 b2 b3).1 ≤ 57343) := by
  unfold Lib.decodeN
  repeat' split
  all_goals simp
  all_goals omega
theorem cutN_pos (s : ByteArray) (i : Nat) : 1 ≤ cutN s i := by unfold cutN; rw [Lib.decode_at]; exact decodeN_pos _ _ _ _ _
theorem cutN_fits (s : ByteArray) (i : Nat) (h : i < s.size) : i + cutN s i ≤ s.size := by
  have := decodeN_fits (s.size - i) (s.get! i).toNat (s.get! (i + 1)).toNat (s.get! (i + 2)).toNat (s.get! (i + 3)).toNat (by omega)
  unfold cutN
  rw [Lib.decode_at]
  omega
theorem cutR_bd (s : ByteArray) (i : Nat) : -256 ≤ cutR s i ∧ cutR s i ≤ 1114111 := by
  have h1 := (decodeN_rune (s.size - i) (s.get! i).toNat (s.get! (i + 1)).toNat (s.get! (i + 2)).toNat (s.get! (i + 3)).toNat).1
  have h2 := bn_lt s i
  unfold cutR
  rw [Lib.decode_at]
  split <;> omega

theorem cutsF_fuel (s : ByteArray) : ∀ (f g i : Nat), s.size - i ≤ f → s.size - i ≤ g → cutsF s f i = cutsF s g i := by
  intro f
  induction f with
  | zero =>
    intro g i hf _
    cases g with
    | zero => rfl
    | succ g => rw [cutsF, cutsF, if_neg (by omega)]
  | succ f ih =>
    intro g i hf hg
    cases g with
    | zero => rw [cutsF, cutsF, if_neg (by omega)]
    | succ g =>
      rw [cutsF, cutsF]
      have := cutN_pos s i
      split
      · rw [ih g (i + cutN s i) (by omega) (by omega)]
      · rfl

/-- what is cut from place i on -/
def cutsAt (s : ByteArray) (i : Nat) : List (Nat × Int) := cutsF s s.size i
theorem cutsAt_lt (s : ByteArray) (i : Nat) (h : i < s.size) : cutsAt s i = (i, cutR s i) :: cutsAt s (i + cutN s i) := by
  unfold cutsAt
  have := cutN_pos s i
  rw [cutsF_fuel s s.size (s.size + 1) i (by omega) (by omega), cutsF, if_pos h]
theorem cutsAt_ge (s : ByteArray) (i : Nat) (h : s.size ≤ i) : cutsAt s i = [] := by
  unfold cutsAt
  cases hs : s.size with
  | zero => rfl
  | succ n => rw [cutsF, if_neg (by omega)]
theorem cutsF_mem (s : ByteArray) : ∀ (f i : Nat) (x : Nat × Int), x ∈ cutsF s f i → x.1 < s.size ∧ x.2 = cutR s x.1 := by
  intro f
  induction f with
  | zero => intro i x hx; simp [cutsF] at hx
  | succ f ih =>
    intro i x hx
    rw [cutsF] at hx
    split at hx
    · rcases List.mem_cons.1 hx with rfl | hx
      · exact ⟨by assumption, rfl⟩
      · exact ih _ _ hx
    · simp at hx
theorem cuts_mem (s : ByteArray) (x : Nat × Int) (h : x ∈ cuts s) : x.1 < s.size ∧ x.2 = cutR s x.1 := cutsF_mem s _ _ x h
theorem cuts_at (s : ByteArray) : cuts s = cutsAt s 0 := rfl
theorem cutsAt_len (s : ByteArray) (i : Nat) : (cutsAt s i).length ≤ s.size - i := by
  have key : ∀ n i, s.size - i ≤ n → (cutsAt s i).length ≤ s.size - i := by
    intro n
    induction n with
    | zero => intro i h; rw [cutsAt_ge s i (by omega)]; simp
    | succ n ih =>
      intro i h
      by_cases hi : i < s.size
      · have h1 := cutN_pos s i
        have h2 := ih (i + cutN s i) (by omega)
        rw [cutsAt_lt s i hi, List.length_cons]
        omega
      · rw [cutsAt_ge s i (by omega)]; simp
  exact key _ i (Nat.le_refl _)

/-- a lost byte is one of those that begin no rune, and the rune 65533 is written with three bytes -/
theorem fffd (s : ByteArray) (i : Nat) (h : i < s.size) : (Utf8.decode s i).1 = 65533 → ((Utf8.decode s i).2 = 1 ∨ ((Utf8.decode s i).2 = 3 ∧ i + 3 ≤ s.size ∧ bn s i = 239 ∧ bn s (i + 1) = 191 ∧ bn s (i + 2) = 189)) := by
  rw [Lib.decode_at]
  have h0 : (s.get! i).toNat < 256 := (s.get! i).toNat_lt
  have h1 : (s.get! (i + 1)).toNat < 256 := (s.get! (i + 1)).toNat_lt
  have h2 : (s.get! (i + 2)).toNat < 256 := (s.get! (i + 2)).toNat_lt
  have h3 : (s.get! (i + 3)).toNat < 256 := (s.get! (i + 3)).toNat_lt
  unfold bn Lib.decodeN
  repeat' split
  all_goals simp
  all_goals omega
theorem fffd_back (s : ByteArray) (i : Nat) (h : i + 3 ≤ s.size) (h0 : bn s i = 239) (h1 : bn s (i + 1) = 191) (h2 : bn s (i + 2) = 189) : Utf8.decode s i = (65533, 3) := by
  rw [Lib.decode_at]
  unfold bn at h0 h1 h2
  rw [h0, h1, h2]
  unfold Lib.decodeN
  simp
  omega
end Go.Proofs.Ytcfpclhoockcfaa
/-
  Small words on memory that the walks of this seat share: a slice that reads as a list, a block known whole, rows that the call owns side by side.
-/
namespace Go.Proofs.Ytcfpclhoockcfaa
set_option maxRecDepth 100000
open Go.RowKit

theorem block_of_add (a : Addr) (n : Nat) : (a.add n).block = a.block := by unfold Addr.add; split <;> rfl
theorem add_of_add (a : Addr) (i j : Nat) : (a.add i).add j = a.add (i + j) := by
  unfold Addr.add
  by_cases hi : i = 0 <;> by_cases hj : j = 0 <;> simp [hi, hj, Nat.add_assoc]

def Reads (w : World) (B size : Nat) (A : Option Addr) (n : Nat) (xs : List Value) : Prop :=
  xs.length = n * size ∧ (0 < n → ∃ ad, A = some ad ∧ ad.block < B ∧ ∀ j u, xs[j]? = some u → w.cell? (ad.add j) = some u)

section
variable {w w' : World} {B B' size n : Nat} {A : Option Addr} {xs : List Value}
theorem Reads.none_ : Reads w B size A 0 [] := ⟨by simp, fun h => absurd h (by omega)⟩
theorem Reads.at_ {k : Nat} (h : Reads w B 1 A n xs) (hk : k < n) : ∃ ad u, A = some ad ∧ ad.block < B ∧ xs[k]? = some u ∧ w.cell? (ad.add k) = some u := by
  obtain ⟨ad, e, hb, hc⟩ := h.2 (by omega)
  have hl : k < xs.length := by have := h.1; omega
  exact ⟨ad, xs[k], e, hb, List.getElem?_eq_getElem hl, hc k _ (List.getElem?_eq_getElem hl)⟩
theorem Reads.keep (h : Reads w B size A n xs) (hk : ∀ p : Addr, p.block < B → w'.cell? p = w.cell? p) : Reads w' B size A n xs :=
  ⟨h.1, fun hn => by
    obtain ⟨ad, e, hb, hc⟩ := h.2 hn
    exact ⟨ad, e, hb, fun j u hu => (hk _ (by rw [block_of_add]; exact hb)).trans (hc j u hu)⟩⟩
theorem Reads.more (h : Reads w B size A n xs) (hB : B ≤ B') : Reads w B' size A n xs :=
  ⟨h.1, fun hn => by
    obtain ⟨ad, e, hb, hc⟩ := h.2 hn
    exact ⟨ad, e, by omega, hc⟩⟩
theorem Reads.below (h : Reads w B size A n xs) (hb : Below B w w') : Reads w' B size A n xs := h.keep fun _ hp => hb.cell hp
theorem Reads.drew (h : Reads w B size A n xs) : Reads w.drew B size A n xs := h
theorem Reads.drewN (h : Reads w B size A n xs) (k : Nat) : Reads (w.drewN k) B size A n xs := h
theorem Reads.alloc (h : Reads w B size A n xs) (hB : B ≤ w.heap.size) (o : Obj) : Reads (w.alloc o) B size A n xs := h.keep fun p hp => World.cell?_alloc_lt w o p (by omega)
theorem Reads.setCell (h : Reads w B size A n xs) {p : Addr} (hB : B ≤ p.block) (u : Value) : Reads (w.setCell p u) B size A n xs :=
  h.keep fun q hq => World.cell?_setCell_other w p q u (fun e => by subst e; omega)
theorem Reads.grown (h : Reads w B size A n xs) {row : Option Nat} (hg : w.grownBy w' row) (hB : B ≤ w.heap.size) (hr : ∀ g, row = some g → B ≤ g) : Reads w' B size A n xs :=
  h.keep fun p hp => World.cell?_of_block (hg.block p.block (by omega) (fun e => by have := hr _ e.symm; omega))
theorem Reads.cut (h : Reads w B size A n xs) {k cap : Nat} (hk : k ≤ n) (hc : n ≤ cap) :
    Reads w B size (if cap = k then A else A.map (·.add (k * size))) (n - k) (xs.drop (k * size)) := by
  refine ⟨by rw [List.length_drop, h.1, Nat.sub_mul], fun hn => ?_⟩
  obtain ⟨ad, rfl, hb, hcell⟩ := h.2 (by omega)
  rw [if_neg (by omega)]
  refine ⟨ad.add (k * size), rfl, by rw [block_of_add]; exact hb, fun j u hu => ?_⟩
  rw [add_of_add]
  exact hcell _ u (by rw [← hu, List.getElem?_drop])
theorem Reads.of_own {base : Nat} {e : TypeId} {c : Nat} (h : w.ownsRow base e size (.slice A n c) n xs) : Reads w w.heap.size size A n xs := by
  refine ⟨h.1, fun hn => ?_⟩
  obtain ⟨g, cap, hv, _, hlt⟩ := h.form hn
  have hA : A = some ⟨g, 0, none⟩ := by injection hv
  subst hA
  exact ⟨_, rfl, hlt, h.cells (g := g) rfl⟩
end
def Blk (w : World) (g : Nat) (t : TypeId) (cs : Array Value) : Prop := w.heap[g]? = some (.cells cs t (0, 0))

section
variable {w w' : World} {g : Nat} {t : TypeId} {cs : Array Value}
theorem Blk.lt (h : Blk w g t cs) : g < w.heap.size := by
  rcases Nat.lt_or_ge g w.heap.size with hlt | hge
  · exact hlt
  · unfold Blk at h; rw [Array.getElem?_eq_none hge] at h; cases h
theorem Blk.cell (h : Blk w g t cs) (i : Nat) : w.cell? ⟨g, i, none⟩ = cs[i]? := cell_of_row w g i cs t (0, 0) h
theorem Blk.frozen (h : Blk w g t cs) (i : Nat) : w.frozen? ⟨g, i, none⟩ = false := by
  unfold Blk at h
  simp [World.frozen?, h]
theorem Blk.new (w : World) (t : TypeId) (cs : Array Value) : Blk (w.alloc (.cells cs t)) w.heap.size t cs := heap_alloc_new w _
theorem Blk.drew (h : Blk w g t cs) : Blk w.drew g t cs := h
theorem Blk.drewN (h : Blk w g t cs) (n : Nat) : Blk (w.drewN n) g t cs := h
theorem Blk.alloc (h : Blk w g t cs) (o : Obj) : Blk (w.alloc o) g t cs := (Below.heap_alloc w o g h.lt).trans h
theorem Blk.set_ (h : Blk w g t cs) (i : Nat) (u : Value) : Blk (w.setCell ⟨g, i, none⟩ u) g t (cs.setIfInBounds i u) := by
  unfold Blk at h ⊢
  simp [World.setCell, Array.getElem?_modify, h]
theorem Blk.far (h : Blk w g t cs) {p : Addr} (hp : g ≠ p.block) (u : Value) : Blk (w.setCell p u) g t cs := (Below.heap_setCell w p u g hp).trans h
theorem Blk.below {B : Nat} (h : Blk w g t cs) (hb : Below B w w') (hg : g < B) : Blk w' g t cs := (hb.block g hg).trans h
theorem Blk.grown {row : Option Nat} (h : Blk w g t cs) (hb : w.grownBy w' row) (hg : some g ≠ row) : Blk w' g t cs := (hb.block g h.lt hg).trans h
theorem Blk.ne_ {g' : Nat} {t' : TypeId} {cs' : Array Value} (h : Blk w g t cs) (h' : Blk w g' t' cs') (hne : t ≠ t') : g ≠ g' := by
  rintro rfl
  unfold Blk at h h'
  rw [h] at h'
  injection h' with h'
  injection h' with _ ht
  exact hne ht
theorem own_blk_ne {base : Nat} {e : TypeId} {size n : Nat} {v : Value} {xs : List Value} (h : w.ownsRow base e size v n xs) (hg : Blk w g t cs) (hne : e ≠ t) : v.ownBlock ≠ some g := by
  rcases h.2 with ⟨rfl, _⟩ | ⟨g', cap, cur, rfl, _, hh, _⟩
  · simp [Value.ownBlock]
  · intro he
    have : g' = g := by simpa [Value.ownBlock] using he
    subst this
    exact Blk.ne_ (t := e) hh hg hne rfl
end
section
variable {P : Program} (w : World)

theorem run_append_of_nil (base : Nat) (t ty e : TypeId) (i : TypeInfo) (size : Nat) (ht : P.underlying t = some (.slice e)) (hi : P.info? e = some i)
    (v : Value) (n : Nat) (xs : List Value) (hown : w.ownsRow base e size v n xs) (c : Nat) : (Builtin.append_ #[t, t] ty #[v, .slice none 0 c]).run P w = .ok v w := by
  rcases hown.2 with ⟨rfl, rfl⟩ | ⟨g, cap, cur, rfl, _, _, hnc, _⟩
  · simp [Builtin.append_, run_underlying ht, sizeOf, typeInfo, hi, Builtin.lenOf, Builtin.firstCells]
  · simp [Builtin.append_, run_underlying ht, sizeOf, typeInfo, hi, Builtin.lenOf, Builtin.firstCells, hnc, storeCells]

theorem run_append_any (base : Nat) (t ty e : TypeId) (i : TypeInfo) (z : Value) (size bytes : Nat) (ht : P.underlying t = some (.slice e)) (hi : P.info? e = some i) (hz : i.zero = some z)
    (hsize : i.size = size) (hby : i.bytes = bytes) (hzs : z.cells.size = size) (hsz : 0 < size)
    (v : Value) (n : Nat) (xs : List Value) (hown : w.ownsRow base e size v n xs)
    (B : Nat) (A : Option Addr) (m c : Nat) (news : List Value) (hr : Reads w B size A m news) (h1 : ∀ u ∈ news, u.oneCell' = true)
    (h63 : n + m ≤ maxLen) (hbytes : (n + m) * bytes ≤ 140737488355328) (hbase : base ≤ w.heap.size) :
    ∃ v' w', (Builtin.append_ #[t, t] ty #[v, .slice A m c]).run P w = .ok v' w' ∧ w'.ownsRow base e size v' (n + m) (xs ++ news) ∧ w.grownBy w' v.ownBlock ∧
      (v'.ownBlock = v.ownBlock ∨ v'.ownBlock = some w.heap.size) := by
  rcases A with _ | ad
  · have hm : m = 0 := by
      rcases Nat.eq_zero_or_pos m with h0 | h0
      · exact h0
      · obtain ⟨ad, h, _⟩ := hr.2 h0
        cases h
    subst hm
    have hn : news = [] := List.eq_nil_of_length_eq_zero (by simpa using hr.1)
    subst hn
    exact ⟨v, w, run_append_of_nil w base t ty e i size ht hi v n xs hown c, by simpa using hown, World.grownBy.refl w _, .inl rfl⟩
  · have hcells : ∀ j u, news[j]? = some u → w.cell? (ad.add j) = some u := by
      intro j u hu
      rcases Nat.eq_zero_or_pos m with h0 | h0
      · subst h0
        have hn : news = [] := List.eq_nil_of_length_eq_zero (by simpa using hr.1)
        subst hn
        simp at hu
      · obtain ⟨ad', h, _, hc⟩ := hr.2 h0
        injection h with h
        subst h
        exact hc j u hu
    obtain ⟨v', w', hrun, h2, h3, _, h5⟩ := run_append_own_at (P := P) w base t ty e i z size bytes ht hi hz hsize hby hzs hsz v n xs hown ad m c news hr.1 hcells h1 h63 hbytes hbase
    exact ⟨v', w', hrun, h2, h3, h5⟩

theorem wp_append_any {o : Oper} {a : Act} {K : Act → World → Prop} {Q : Exit → Act → World → Prop} (s x : Operand) (t : TypeId)
    (ho : o.op = .call { callee := .builtin .append, args := #[s, x], argTypes := #[t, t] })
    (base : Nat) (e : TypeId) (i : TypeInfo) (z : Value) (size bytes : Nat) (ht : P.underlying t = some (.slice e)) (hi : P.info? e = some i) (hz : i.zero = some z)
    (hsize : i.size = size) (hby : i.bytes = bytes) (hzs : z.cells.size = size) (hsz : 0 < size)
    (v : Value) (n : Nat) (xs : List Value) (hs : a.eval s = v) (hown : w.ownsRow base e size v n xs)
    (B : Nat) (A : Option Addr) (m c : Nat) (news : List Value) (hx : a.eval x = .slice A m c) (hr : Reads w B size A m news) (h1 : ∀ u ∈ news, u.oneCell' = true)
    (h63 : n + m ≤ maxLen) (hbytes : (n + m) * bytes ≤ 140737488355328) (hbase : base ≤ w.heap.size)
    (h : ∀ v' w', w'.ownsRow base e size v' (n + m) (xs ++ news) → w.grownBy w' v.ownBlock → (v'.ownBlock = v.ownBlock ∨ v'.ownBlock = some w.heap.size) → K (a.put o.dst v') w') : o.wp P a w K Q := by
  obtain ⟨v', w', hrun, h2, h3, h4⟩ := run_append_any (P := P) w base t o.type e i z size bytes ht hi hz hsize hby hzs hsz v n xs hown B A m c news hr h1 h63 hbytes hbase
  unfold Oper.wp execOp
  simp only [ho, resolve, invoke, builtin, Sem.run_bind, Sem.run_pure, Result.andThen_ok, List.map_toArray, List.map_cons, List.map_nil, hs, hx, hrun]
  exact h v' w' h2 h3 h4

theorem wpList_append_any {ops : Array Oper} {rest : List Oper} {o : Oper} {a : Act} {Q : Exit → Act → World → Prop} (hgd : o.guard = none) (s x : Operand) (t : TypeId)
    (ho : o.op = .call { callee := .builtin .append, args := #[s, x], argTypes := #[t, t] })
    (base : Nat) (e : TypeId) (i : TypeInfo) (z : Value) (size bytes : Nat) (ht : P.underlying t = some (.slice e)) (hi : P.info? e = some i) (hz : i.zero = some z)
    (hsize : i.size = size) (hby : i.bytes = bytes) (hzs : z.cells.size = size) (hsz : 0 < size)
    (v : Value) (n : Nat) (xs : List Value) (hs : a.eval s = v) (hown : w.ownsRow base e size v n xs)
    (B : Nat) (A : Option Addr) (m c : Nat) (news : List Value) (hx : a.eval x = .slice A m c) (hr : Reads w B size A m news) (h1 : ∀ u ∈ news, u.oneCell' = true)
    (h63 : n + m ≤ maxLen) (hbytes : (n + m) * bytes ≤ 140737488355328) (hbase : base ≤ w.heap.size)
    (h : ∀ v' w', w'.ownsRow base e size v' (n + m) (xs ++ news) → w.grownBy w' v.ownBlock → (v'.ownBlock = v.ownBlock ∨ v'.ownBlock = some w.heap.size) → wpList P ops Q rest (a.put o.dst v') w') : wpList P ops Q (o :: rest) a w :=
  wpList_plain hgd fun _ hK => wp_append_any w s x t ho base e i z size bytes ht hi hz hsize hby hzs hsz v n xs hs hown B A m c news hx hr h1 h63 hbytes hbase fun v' w' h2 h3 h4 => hK _ _ (h v' w' h2 h3 h4)

theorem step_append_any {ops : Array Oper} {o : Oper} {a : Act} {K : Act → World → Prop} {Q : Exit → Act → World → Prop} {E : Prop} (hgd : o.guard = none) (s x : Operand) (t : TypeId)
    (ho : o.op = .call { callee := .builtin .append, args := #[s, x], argTypes := #[t, t] })
    (base : Nat) (e : TypeId) (i : TypeInfo) (z : Value) (size bytes : Nat) (ht : P.underlying t = some (.slice e)) (hi : P.info? e = some i) (hz : i.zero = some z)
    (hsize : i.size = size) (hby : i.bytes = bytes) (hzs : z.cells.size = size) (hsz : 0 < size)
    (v : Value) (n : Nat) (xs : List Value) (hs : a.eval s = v) (hown : w.ownsRow base e size v n xs)
    (B : Nat) (A : Option Addr) (m c : Nat) (news : List Value) (hx : a.eval x = .slice A m c) (hr : Reads w B size A m news) (h1 : ∀ u ∈ news, u.oneCell' = true)
    (h63 : n + m ≤ maxLen) (hbytes : (n + m) * bytes ≤ 140737488355328) (hbase : base ≤ w.heap.size)
    (h : ∀ v' w', w'.ownsRow base e size v' (n + m) (xs ++ news) → w.grownBy w' v.ownBlock → (v'.ownBlock = v.ownBlock ∨ v'.ownBlock = some w.heap.size) → K (a.put o.dst v') w') :
    if Region.wanted o (yielded ops a.tmps) = true then Oper.wp P o a w K Q else E := by
  have hw : Region.wanted o (yielded ops a.tmps) = true := by simp [Region.wanted, hgd]
  rw [if_pos hw]
  exact wp_append_any w s x t ho base e i z size bytes ht hi hz hsize hby hzs hsz v n xs hs hown B A m c news hx hr h1 h63 hbytes hbase h
end

/-! ### Rows side by side -/
/-- A row that the call owns: element type, cells of an element, the slice value, its length, its cells. -/
structure Ro where
  e : TypeId
  size : Nat
  v : Value
  n : Nat
  xs : List Value

def Owns (w : World) (B : Nat) (rs : List Ro) : Prop :=
  (∀ r ∈ rs, w.ownsRow B r.e r.size r.v r.n r.xs) ∧ rs.Pairwise (fun r s => r.v.ownBlock = none ∨ r.v.ownBlock ≠ s.v.ownBlock)

section
variable {w w' : World} {B : Nat} {rs : List Ro}
theorem Owns.nil_ : Owns w B [] := ⟨fun r h => (by cases h), List.Pairwise.nil⟩
theorem Owns.at_ (h : Owns w B rs) {i : Nat} {r : Ro} (hr : rs[i]? = some r) : w.ownsRow B r.e r.size r.v r.n r.xs := h.1 r (List.mem_of_getElem? hr)
theorem Owns.drew (h : Owns w B rs) : Owns w.drew B rs := h
theorem Owns.drewN (h : Owns w B rs) (k : Nat) : Owns (w.drewN k) B rs := h
theorem Owns.keep_ (h : Owns w B rs) (hb : ∀ k, k < w.heap.size → w'.heap[k]? = w.heap[k]?) : Owns w' B rs :=
  ⟨fun r hr => by
    have h1 := h.1 r hr
    refine ⟨h1.1, ?_⟩
    rcases h1.2 with h2 | ⟨g, cap, cur, hv, hB, hg, rest⟩
    · exact .inl h2
    · exact .inr ⟨g, cap, cur, hv, hB, (hb g (Array.getElem?_eq_some_iff.1 hg).1).trans hg, rest⟩, h.2⟩
theorem Owns.below (h : Owns w B rs) (hb : Below w.heap.size w w') : Owns w' B rs := h.keep_ hb.block
theorem Owns.alloc (h : Owns w B rs) (o : Obj) : Owns (w.alloc o) B rs := h.keep_ fun _ hk => heap_alloc_old w o hk
theorem Owns.lt_ (h : Owns w B rs) {r : Ro} (hr : r ∈ rs) {k : Nat} (hk : r.v.ownBlock = some k) : B ≤ k ∧ k < w.heap.size := (h.1 r hr).lt k hk
/-- A row in new memory comes behind. -/
theorem Owns.push (h : Owns w B rs) (hb : Below w.heap.size w w') {r : Ro} (hr : w'.ownsRow w.heap.size r.e r.size r.v r.n r.xs) (hB : B ≤ w.heap.size) : Owns w' B (rs ++ [r]) := by
  have h' := h.below hb
  refine ⟨fun s hs => ?_, ?_⟩
  · rcases List.mem_append.1 hs with hs | hs
    · exact h'.1 s hs
    · obtain rfl := List.mem_singleton.1 hs
      refine ⟨hr.1, ?_⟩
      rcases hr.2 with h2 | ⟨g, cap, cur, hv, hg0, rest⟩
      · exact .inl h2
      · exact .inr ⟨g, cap, cur, hv, by omega, rest⟩
  · rw [List.pairwise_append]
    refine ⟨h'.2, List.pairwise_singleton _ _, fun s hs t ht => ?_⟩
    obtain rfl := List.mem_singleton.1 ht
    cases hv : s.v.ownBlock with
    | none => exact .inl rfl
    | some k =>
      right
      intro he
      have h1 := (h.lt_ hs hv).2
      have h2 := (hr.lt k he.symm).1
      omega
theorem blk_own {g : Nat} {t : TypeId} {cs : Array Value} (h : Blk w g t cs) (hB : B ≤ g) (hm : cs.size ≤ maxLen) : w.ownsRow B t 1 (.slice (some ⟨g, 0, none⟩) cs.size cs.size) cs.size cs.toList :=
  ⟨by simp, .inr ⟨g, cs.size, cs, rfl, hB, h, Nat.le_refl _, hm, by simp, List.take_of_length_le (by simp)⟩⟩
theorem own_blk {g n : Nat} {t : TypeId} {xs : List Value} (h : w.ownsRow B t 1 (.slice (some ⟨g, 0, none⟩) n n) n xs) : Blk w g t xs.toArray := by
  rcases h.2 with ⟨h1, _⟩ | ⟨g', cap, cur, hv, _, hg, _, _, hs, ht⟩
  · cases h1
  · injection hv with h1 _ h3
    injection h1 with h1
    injection h1 with h1
    subst h1 h3
    have : xs = cur.toList := by rw [← ht, List.take_of_length_le (by simp [hs])]
    subst this
    simpa [Blk] using hg
/-- A new block comes behind. -/
theorem Owns.box (h : Owns w B rs) (t : TypeId) (cs : Array Value) (hB : B ≤ w.heap.size) (hm : cs.size ≤ maxLen) :
    Owns (w.alloc (.cells cs t)) B (rs ++ [⟨t, 1, .slice (some ⟨w.heap.size, 0, none⟩) cs.size cs.size, cs.size, cs.toList⟩]) :=
  h.push ((Below.refl _ _).alloc (Nat.le_refl _) _) (blk_own (Blk.new w t cs) (Nat.le_refl _) hm) hB
/-- One row turned: in place, or in a new block. -/
theorem Owns.turn (h : Owns w B rs) {i : Nat} {r r' : Ro} (hr : rs[i]? = some r) (hg : w.grownBy w' r.v.ownBlock) (hr' : w'.ownsRow B r'.e r'.size r'.v r'.n r'.xs)
    (hw : r'.v.ownBlock = r.v.ownBlock ∨ r'.v.ownBlock = none ∨ ∃ k, r'.v.ownBlock = some k ∧ w.heap.size ≤ k) : Owns w' B (rs.set i r') := by
  have hi : i < rs.length := (List.getElem?_eq_some_iff.1 hr).1
  have hmem : r ∈ rs := List.mem_of_getElem? hr
  have key : ∀ j s, j ≠ i → rs[j]? = some s → (s.v.ownBlock = none ∨ s.v.ownBlock ≠ r.v.ownBlock) := by
    intro j s hj hs
    rcases Nat.lt_or_gt_of_ne hj with hlt | hlt
    · have := List.pairwise_iff_getElem.1 h.2 j i (List.getElem?_eq_some_iff.1 hs).1 hi hlt
      rw [(List.getElem?_eq_some_iff.1 hs).2, (List.getElem?_eq_some_iff.1 hr).2] at this
      exact this
    · have := List.pairwise_iff_getElem.1 h.2 i j hi (List.getElem?_eq_some_iff.1 hs).1 hlt
      rw [(List.getElem?_eq_some_iff.1 hs).2, (List.getElem?_eq_some_iff.1 hr).2] at this
      rcases this with h1 | h1
      · cases hv : s.v.ownBlock with
        | none => exact .inl rfl
        | some k => right; rw [h1]; simp
      · exact .inr (Ne.symm h1)
  have far : ∀ j s, j ≠ i → rs[j]? = some s → (s.v.ownBlock = none ∨ s.v.ownBlock ≠ r'.v.ownBlock) := by
    intro j s hj hs
    rcases hw with hw | hw | ⟨k, hw, hk⟩
    · rw [hw]; exact key j s hj hs
    · cases hv : s.v.ownBlock with
      | none => exact .inl rfl
      | some k => right; rw [hw]; simp
    · cases hv : s.v.ownBlock with
      | none => exact .inl rfl
      | some k' =>
        right
        rw [hw]
        intro he
        injection he with he
        have := (h.lt_ (List.mem_of_getElem? hs) hv).2
        omega
  refine ⟨fun s hs => ?_, List.pairwise_iff_getElem.2 fun a b ha hb hab => ?_⟩
  · obtain ⟨j, hj⟩ := List.mem_iff_getElem?.1 hs
    rw [List.getElem?_set] at hj
    split at hj
    · injection hj with hj
      subst hj
      exact hr'
    · rename_i hne
      refine (h.at_ hj).kept hg ?_
      rcases key j s (fun e => hne e.symm) hj with h1 | h1
      · exact .inl h1
      · exact .inr h1
  · rw [List.length_set] at ha hb
    rw [List.getElem_set, List.getElem_set]
    split
    · rename_i hia
      subst hia
      rw [if_neg (by omega)]
      rcases far b _ (by omega) (List.getElem?_eq_getElem hb) with h1 | h1
      · cases hv : r'.v.ownBlock with
        | none => exact .inl rfl
        | some k => right; rw [h1]; simp
      · exact .inr (Ne.symm h1)
    · split
      · rename_i hia hib
        subst hib
        exact far a _ (by omega) (List.getElem?_eq_getElem ha)
      · exact List.pairwise_iff_getElem.1 h.2 a b ha hb hab
/-- A cell of a row is written. -/
theorem ownsRow_set {e : TypeId} {size n g c j : Nat} {xs : List Value} (h : w.ownsRow B e size (.slice (some ⟨g, 0, none⟩) n c) n xs) (_hj : j < xs.length) (u : Value) :
    (w.setCell ⟨g, j, none⟩ u).ownsRow B e size (.slice (some ⟨g, 0, none⟩) n c) n (xs.set j u) := by
  refine ⟨by rw [List.length_set]; exact h.1, ?_⟩
  rcases h.2 with ⟨h1, _⟩ | ⟨g', cap, cur, hv, hB, hg, hn, hm, hs, ht⟩
  · cases h1
  · injection hv with h1 _ h3
    injection h1 with h1
    injection h1 with h1
    subst h1 h3
    refine .inr ⟨g, c, cur.setIfInBounds j u, rfl, hB, ?_, hn, hm, by simpa using hs, ?_⟩
    · simp [World.setCell, Array.getElem?_modify, hg]
    · rw [← ht, Array.toList_setIfInBounds, List.take_set]
theorem grownBy_setCell (w : World) (g j : Nat) (u : Value) : w.grownBy (w.setCell ⟨g, j, none⟩ u) (some g) :=
  ⟨rfl, rfl, rfl, by simp [World.setCell], fun k _ hk => Below.heap_setCell w ⟨g, j, none⟩ u k (fun e => hk (by rw [e]))⟩
theorem Owns.store (h : Owns w B rs) {i : Nat} {e : TypeId} {size n g c j : Nat} {xs : List Value} (hr : rs[i]? = some ⟨e, size, .slice (some ⟨g, 0, none⟩) n c, n, xs⟩) (hj : j < xs.length) (u : Value) :
    Owns (w.setCell ⟨g, j, none⟩ u) B (rs.set i ⟨e, size, .slice (some ⟨g, 0, none⟩) n c, n, xs.set j u⟩) :=
  h.turn hr (grownBy_setCell w g j u) (ownsRow_set (h.at_ hr) hj u) (.inl rfl)
theorem Owns.cell (h : Owns w B rs) {i : Nat} {e : TypeId} {size n g c j : Nat} {xs : List Value} {u : Value} (hr : rs[i]? = some ⟨e, size, .slice (some ⟨g, 0, none⟩) n c, n, xs⟩) (hu : xs[j]? = some u) :
    w.cell? ⟨g, j, none⟩ = some u := by
  have := (h.at_ hr).cells (g := g) rfl j u hu
  have e1 : (⟨g, 0, none⟩ : Addr).add j = ⟨g, j, none⟩ := by unfold Addr.add; split <;> simp_all
  rwa [e1] at this
theorem Owns.frozen (h : Owns w B rs) {i : Nat} {e : TypeId} {size n g c : Nat} {xs : List Value} (hr : rs[i]? = some ⟨e, size, .slice (some ⟨g, 0, none⟩) n c, n, xs⟩) (j : Nat) :
    w.frozen? ⟨g, j, none⟩ = false := by
  rcases (h.at_ hr).2 with ⟨h1, _⟩ | ⟨g', cap, cur, hv, _, hg, _⟩
  · cases h1
  · injection hv with h1
    injection h1 with h1
    injection h1 with h1
    subst h1
    simp [World.frozen?, hg]
theorem Owns.base (h : Owns w B rs) {i : Nat} {e : TypeId} {size n g c : Nat} {xs : List Value} (hr : rs[i]? = some ⟨e, size, .slice (some ⟨g, 0, none⟩) n c, n, xs⟩) : B ≤ g ∧ g < w.heap.size :=
  h.lt_ (List.mem_of_getElem? hr) rfl
theorem Owns.swap (h : Owns w B rs) {qs : List Ro} (hp : rs.Perm qs) : Owns w B qs :=
  ⟨fun r hr => h.1 r (hp.mem_iff.2 hr), (hp.pairwise_iff (fun {a b} hab => by
    rcases hab with h1 | h1
    · cases hv : b.v.ownBlock with
      | none => exact .inl rfl
      | some k => right; rw [h1]; simp
    · exact .inr (Ne.symm h1))).1 h.2⟩
theorem Owns.sub (h : Owns w B rs) {qs : List Ro} (hs : qs.Sublist rs) : Owns w B qs := ⟨fun r hr => h.1 r (hs.subset hr), h.2.sublist hs⟩
end

section
variable {P : Program} (w : World)
/-- append onto the row number k of those that the call owns. -/
theorem wpList_append_owns {ops : Array Oper} {rest : List Oper} {o : Oper} {a : Act} {Q : Exit → Act → World → Prop} (hgd : o.guard = none) (s x : Operand) (t : TypeId)
    (ho : o.op = .call { callee := .builtin .append, args := #[s, x], argTypes := #[t, t] })
    (B : Nat) (rs : List Ro) (k : Nat) (e : TypeId) (size : Nat) (v : Value) (n : Nat) (xs : List Value) (hr : rs[k]? = some ⟨e, size, v, n, xs⟩) (hO : Owns w B rs) (hB : B ≤ w.heap.size)
    (i : TypeInfo) (z : Value) (bytes : Nat) (ht : P.underlying t = some (.slice e)) (hi : P.info? e = some i) (hz : i.zero = some z)
    (hsize : i.size = size) (hby : i.bytes = bytes) (hzs : z.cells.size = size) (hsz : 0 < size)
    (hs : a.eval s = v)
    (B' : Nat) (A : Option Addr) (m c : Nat) (news : List Value) (hx : a.eval x = .slice A m c) (hn : Reads w B' size A m news) (h1 : ∀ u ∈ news, u.oneCell' = true)
    (h63 : n + m ≤ maxLen) (hbytes : (n + m) * bytes ≤ 140737488355328)
    (h : ∀ v' w', Owns w' B (rs.set k ⟨e, size, v', n + m, xs ++ news⟩) → Below B w w' → w.heap.size ≤ w'.heap.size → wpList P ops Q rest (a.put o.dst v') w') : wpList P ops Q (o :: rest) a w := by
  refine wpList_append_any w hgd s x t ho B e i z size bytes ht hi hz hsize hby hzs hsz v n xs hs (hO.at_ hr) B' A m c news hx hn h1 h63 hbytes hB ?_
  intro v' w' hown hg hat
  refine h v' w' (hO.turn hr hg hown ?_) ((Below.refl _ _).grown hg hB (fun j hj => (hO.lt_ (List.mem_of_getElem? hr) hj).1)) hg.size
  rcases hat with h2 | h2
  · exact .inl h2
  · exact .inr (.inr ⟨_, h2, Nat.le_refl _⟩)
end

theorem reads_new (w : World) (t : TypeId) (size n : Nat) (us : List Value) (hl : us.length = n * size) : Reads (w.alloc (.cells us.toArray t)) (w.heap.size + 1) size (some ⟨w.heap.size, 0, none⟩) n us := by
  refine ⟨hl, fun _ => ⟨_, rfl, Nat.lt_succ_self _, fun j u hu => ?_⟩⟩
  have e1 : (⟨w.heap.size, 0, none⟩ : Addr).add j = ⟨w.heap.size, j, none⟩ := by unfold Addr.add; split <;> simp_all
  rw [e1, (Blk.new w t us.toArray).cell]
  simpa using hu
theorem ownsRow_some {w : World} {B : Nat} {e : TypeId} {size n : Nat} {v : Value} {xs : List Value} (h : w.ownsRow B e size v n xs) (hn : 0 < n) : ∃ g c, v = .slice (some ⟨g, 0, none⟩) n c := by
  rcases h.2 with ⟨_, h0⟩ | ⟨g, cap, _, hv, _⟩
  · omega
  · exact ⟨g, cap, hv⟩
theorem ownsRow_slice {w : World} {B : Nat} {e : TypeId} {size n : Nat} {v : Value} {xs : List Value} (h : w.ownsRow B e size v n xs) : ∃ A c, v = .slice A n c ∧ n ≤ c ∧ c ≤ maxLen := by
  rcases h.2 with ⟨rfl, rfl⟩ | ⟨g, cap, _, hv, _, _, h1, h2, _⟩
  · exact ⟨none, 0, rfl, Nat.le_refl _, Nat.zero_le _⟩
  · exact ⟨_, cap, hv, h1, h2⟩
theorem take_snoc {α : Type} (l : List α) (d : α) (k : Nat) (h : k < l.length) : l.take (k + 1) = l.take k ++ [l[k]?.getD d] := by
  rw [List.take_add_one, List.getElem?_eq_getElem h]; rfl
theorem get_map {α : Type} (f : α → Value) (l : List α) (d : α) (k : Nat) {u : Value} (h : k < l.length) (hu : (l.map f)[k]? = some u) : u = f (l[k]?.getD d) := by
  rw [List.getElem?_map, List.getElem?_eq_getElem h] at hu
  rw [List.getElem?_eq_getElem h]
  simpa using hu.symm
theorem hide_ {p : Prop} (h : p) : Go.RowKit.Hid p := h
end Go.Proofs.Ytcfpclhoockcfaa
