/-
  Joined and packed by program.
-/
import Derived.WalkKit
import Derived.PlainAid
import Derived.Lib.DecodeN
import Derived.WalkSpells
import Derived.WalkLawsBesides
import Derived.Below
import Derived.Laws.OwnMore
import Derived.Deep.AppendLies
import Derived.Deep.Draws
import Derived.Laws.Rows
import Derived.Maps.AppendAt
import Derived.RegionTactic
import Derived.OwnWalk
import Derived.Deep.QuietTactic
import Derived.BigQuiet
import Derived.Test.YtikbegmodacopaaGreatDoorProg
import Derived.RangeFuncNested
import Derived.RangeFuncBound
import Derived.RangeFuncCalls
import Derived.RangeFuncLeaves
import Derived.Shelf.Abstract
import Derived.Shelf.RegionOpen
import Derived.OwnWalkIn
import Derived.TacticsInMore
import Derived.LoopNIn
import Derived.LoopIn
import Derived.Lib.OthersKept
import Derived.Lib.Strings
import Derived.Laws.EntriesVeiled
namespace Go.Proofs.YtikbegmodacopaaGreatDoor
set_option maxRecDepth 100000
open Go.RowKit Go.PlainAid
def bn (s:ByteArray) (k:Nat):Nat:=(s.get! k).toNat
theorem bn_lt (s:ByteArray) (k:Nat):bn s k<256:=(s.get! k).toNat_lt
theorem get!_eq (s:ByteArray) (k:Nat) (h:k<s.size):s.get! k=s[k]'h:=by
 have:=get_at s k h
 simpa using this
theorem bn_eq (s:ByteArray) (k:Nat) (h:k<s.size):(s[k]'h).toNat=bn s k:=by
 unfold bn
 rw [get!_eq s k h]
theorem bt_eq (s:ByteArray) (k:Nat) (h:k<s.size):bt s k=(bn s k:Int):=by
 rw [← get_bt s k h,bn_eq s k h]
def lost (s:ByteArray) (i:Nat):Prop:=(Utf8.decode s i).1=65533∧(Utf8.decode s i).2=1
instance (s:ByteArray) (i:Nat):Decidable (lost s i):=inferInstanceAs (Decidable (_∧_))
def cutR (s:ByteArray) (i:Nat):Int:=if lost s i then -1 - (bn s i:Int) else ((Utf8.decode s i).1:Int)
def cutN (s:ByteArray) (i:Nat):Nat:=(Utf8.decode s i).2
def cutsF (s:ByteArray):Nat→Nat→List (Nat × Int)
 | 0,_=>[]
 | f+1,i=>if i<s.size then (i,cutR s i) :: cutsF s f (i+cutN s i) else []
def cuts (s:ByteArray):List (Nat × Int):=cutsF s s.size 0
theorem decodeN_pos (n b0 b1 b2 b3:Nat):1≤(Lib.decodeN n b0 b1 b2 b3).2:=by
 unfold Lib.decodeN
 repeat' split
 all_goals simp
theorem decodeN_fits (n b0 b1 b2 b3:Nat) (hn:1≤n):(Lib.decodeN n b0 b1 b2 b3).2≤n:=by
 unfold Lib.decodeN
 repeat' split
 all_goals simp
 all_goals omega
theorem decodeN_rune (n b0 b1 b2 b3:Nat):(Lib.decodeN n b0 b1 b2 b3).1≤1114111∧¬ (55296≤(Lib.decodeN n b0 b1 b2 b3).1∧(Lib.decodeN n b0 b1 b2 b3).1≤57343):=by
 unfold Lib.decodeN
 repeat' split
 all_goals simp
 all_goals omega
theorem cutN_pos (s:ByteArray) (i:Nat):1≤cutN s i:=by unfold cutN;rw [Lib.decode_at];exact decodeN_pos _ _ _ _ _
theorem cutN_fits (s:ByteArray) (i:Nat) (h:i<s.size):i+cutN s i≤s.size:=by
 have:=decodeN_fits (s.size - i) (s.get! i).toNat (s.get! (i+1)).toNat (s.get! (i+2)).toNat (s.get! (i+3)).toNat (by omega)
 unfold cutN
 rw [Lib.decode_at]
 omega
theorem cutsF_fuel (s:ByteArray):∀ (f g i:Nat),s.size - i≤f→s.size - i≤g→cutsF s f i=cutsF s g i:=by
 intro f
 induction f with
 | zero =>
  intro g i hf _
  cases g with
  | zero=>rfl
  | succ g=>rw [cutsF,cutsF,if_neg (by omega)]
 | succ f ih =>
  intro g i hf hg
  cases g with
  | zero=>rw [cutsF,cutsF,if_neg (by omega)]
  | succ g =>
   rw [cutsF,cutsF]
   have:=cutN_pos s i
   split
   ·rw [ih g (i+cutN s i) (by omega) (by omega)]
   ·rfl
def cutsAt (s:ByteArray) (i:Nat):List (Nat × Int):=cutsF s s.size i
theorem cutsAt_lt (s:ByteArray) (i:Nat) (h:i<s.size):cutsAt s i=(i,cutR s i) :: cutsAt s (i+cutN s i):=by
 unfold cutsAt
 have:=cutN_pos s i
 rw [cutsF_fuel s s.size (s.size+1) i (by omega) (by omega),cutsF,if_pos h]
theorem cutsAt_ge (s:ByteArray) (i:Nat) (h:s.size≤i):cutsAt s i=[]:=by
 unfold cutsAt
 cases hs:s.size with
 | zero=>rfl
 | succ n=>rw [cutsF,if_neg (by omega)]
theorem cutsF_mem (s:ByteArray):∀ (f i:Nat) (x:Nat × Int),x ∈ cutsF s f i→x.1<s.size∧x.2=cutR s x.1:=by
 intro f
 induction f with
 | zero=>intro i x hx;simp [cutsF] at hx
 | succ f ih =>
  intro i x hx
  rw [cutsF] at hx
  split at hx
  ·rcases List.mem_cons.1 hx with rfl | hx
   ·exact ⟨by assumption,rfl⟩
   ·exact ih _ _ hx
  ·simp at hx
theorem cuts_mem (s:ByteArray) (x:Nat × Int) (h:x ∈ cuts s):x.1<s.size∧x.2=cutR s x.1:=cutsF_mem s _ _ x h
theorem cuts_at (s:ByteArray):cuts s=cutsAt s 0:=rfl
theorem fffd (s:ByteArray) (i:Nat) (h:i<s.size):(Utf8.decode s i).1=65533→((Utf8.decode s i).2=1∨((Utf8.decode s i).2=3∧i+3≤s.size∧bn s i=239∧bn s (i+1)=191∧bn s (i+2)=189)):=by
 rw [Lib.decode_at]
 have h0:(s.get! i).toNat<256:=(s.get! i).toNat_lt
 have h1:(s.get! (i+1)).toNat<256:=(s.get! (i+1)).toNat_lt
 have h2:(s.get! (i+2)).toNat<256:=(s.get! (i+2)).toNat_lt
 have h3:(s.get! (i+3)).toNat<256:=(s.get! (i+3)).toNat_lt
 unfold bn Lib.decodeN
 repeat' split
 all_goals simp
 all_goals omega
theorem fffd_back (s:ByteArray) (i:Nat) (h:i+3≤s.size) (h0:bn s i=239) (h1:bn s (i+1)=191) (h2:bn s (i+2)=189):Utf8.decode s i=(65533,3):=by
 rw [Lib.decode_at]
 unfold bn at h0 h1 h2
 rw [h0,h1,h2]
 unfold Lib.decodeN
 simp
 omega
end Go.Proofs.YtikbegmodacopaaGreatDoor
namespace Go.Proofs.YtikbegmodacopaaGreatDoor
set_option maxRecDepth 100000
open Go.RowKit
theorem block_of_add (a:Addr) (n:Nat):(a.add n).block=a.block:=by unfold Addr.add;split <;> rfl
theorem add_of_add (a:Addr) (i j:Nat):(a.add i).add j=a.add (i+j):=by
 unfold Addr.add
 by_cases hi:i=0 <;> by_cases hj:j=0 <;> simp [hi,hj,Nat.add_assoc]
def Reads (w:World) (B size:Nat) (A:Option Addr) (n:Nat) (xs:List Value):Prop :=
 xs.length=n * size∧(0<n→∃ ad,A=some ad∧ad.block<B∧∀ j u,xs[j]?=some u→w.cell? (ad.add j)=some u)
section
variable {w w':World} {B B' size n:Nat} {A:Option Addr} {xs:List Value}
theorem Reads.none_:Reads w B size A 0 []:=⟨by simp,fun h=>absurd h (by omega)⟩
theorem Reads.at_ {k:Nat} (h:Reads w B 1 A n xs) (hk:k<n):∃ ad u,A=some ad∧ad.block<B∧xs[k]?=some u∧w.cell? (ad.add k)=some u:=by
 obtain ⟨ad,e,hb,hc⟩:=h.2 (by omega)
 have hl:k<xs.length:=by have:=h.1;omega
 exact ⟨ad,xs[k],e,hb,List.getElem?_eq_getElem hl,hc k _ (List.getElem?_eq_getElem hl)⟩
theorem Reads.keep (h:Reads w B size A n xs) (hk:∀ p:Addr,p.block<B→w'.cell? p=w.cell? p):Reads w' B size A n xs :=
 ⟨h.1,fun hn=>by
   obtain ⟨ad,e,hb,hc⟩:=h.2 hn
   exact ⟨ad,e,hb,fun j u hu=>(hk _ (by rw [block_of_add];exact hb)).trans (hc j u hu)⟩⟩
theorem Reads.more (h:Reads w B size A n xs) (hB:B≤B'):Reads w B' size A n xs :=
 ⟨h.1,fun hn=>by
   obtain ⟨ad,e,hb,hc⟩:=h.2 hn
   exact ⟨ad,e,by omega,hc⟩⟩
theorem Reads.below (h:Reads w B size A n xs) (hb:Below B w w'):Reads w' B size A n xs:=h.keep fun _ hp=>hb.cell hp
theorem Reads.drew (h:Reads w B size A n xs):Reads w.drew B size A n xs:=h
theorem Reads.drewN (h:Reads w B size A n xs) (k:Nat):Reads (w.drewN k) B size A n xs:=h
theorem Reads.alloc (h:Reads w B size A n xs) (hB:B≤w.heap.size) (o:Obj):Reads (w.alloc o) B size A n xs:=h.keep fun p hp=>World.cell?_alloc_lt w o p (by omega)
theorem Reads.setCell (h:Reads w B size A n xs) {p:Addr} (hB:B≤p.block) (u:Value):Reads (w.setCell p u) B size A n xs :=
 h.keep fun q hq=>World.cell?_setCell_other w p q u (fun e=>by subst e;omega)
theorem Reads.grown (h:Reads w B size A n xs) {row:Option Nat} (hg:w.grownBy w' row) (hB:B≤w.heap.size) (hr:∀ g,row=some g→B≤g):Reads w' B size A n xs :=
 h.keep fun p hp=>World.cell?_of_block (hg.block p.block (by omega) (fun e=>by have:=hr _ e.symm;omega))
theorem Reads.cut (h:Reads w B size A n xs) {k cap:Nat} (hk:k≤n) (hc:n≤cap) :
  Reads w B size (if cap=k then A else A.map (·.add (k * size))) (n - k) (xs.drop (k * size)):=by
 refine ⟨by rw [List.length_drop,h.1,Nat.sub_mul],fun hn=>?_⟩
 obtain ⟨ad,rfl,hb,hcell⟩:=h.2 (by omega)
 rw [if_neg (by omega)]
 refine ⟨ad.add (k * size),rfl,by rw [block_of_add];exact hb,fun j u hu=>?_⟩
 rw [add_of_add]
 exact hcell _ u (by rw [← hu,List.getElem?_drop])
theorem Reads.of_own {base:Nat} {e:TypeId} {c:Nat} (h:w.ownsRow base e size (.slice A n c) n xs):Reads w w.heap.size size A n xs:=by
 refine ⟨h.1,fun hn=>?_⟩
 obtain ⟨g,cap,hv,_,hlt⟩:=h.form hn
 have hA:A=some ⟨g,0,none⟩:=by injection hv
 subst hA
 exact ⟨_,rfl,hlt,h.cells (g:=g) rfl⟩
end
def Blk (w:World) (g:Nat) (t:TypeId) (cs:Array Value):Prop:=w.heap[g]?=some (.cells cs t (0,0))
section
variable {w w':World} {g:Nat} {t:TypeId} {cs:Array Value}
theorem Blk.lt (h:Blk w g t cs):g<w.heap.size:=by
 rcases Nat.lt_or_ge g w.heap.size with hlt | hge
 ·exact hlt
 ·unfold Blk at h;rw [Array.getElem?_eq_none hge] at h;cases h
theorem Blk.cell (h:Blk w g t cs) (i:Nat):w.cell? ⟨g,i,none⟩=cs[i]?:=cell_of_row w g i cs t (0,0) h
theorem Blk.frozen (h:Blk w g t cs) (i:Nat):w.frozen? ⟨g,i,none⟩=false:=by
 unfold Blk at h
 simp [World.frozen?,h]
theorem Blk.new (w:World) (t:TypeId) (cs:Array Value):Blk (w.alloc (.cells cs t)) w.heap.size t cs:=heap_alloc_new w _
theorem Blk.drew (h:Blk w g t cs):Blk w.drew g t cs:=h
theorem Blk.drewN (h:Blk w g t cs) (n:Nat):Blk (w.drewN n) g t cs:=h
theorem Blk.alloc (h:Blk w g t cs) (o:Obj):Blk (w.alloc o) g t cs:=(Below.heap_alloc w o g h.lt).trans h
theorem Blk.set_ (h:Blk w g t cs) (i:Nat) (u:Value):Blk (w.setCell ⟨g,i,none⟩ u) g t (cs.setIfInBounds i u):=by
 unfold Blk at h ⊢
 simp [World.setCell,Array.getElem?_modify,h]
theorem Blk.far (h:Blk w g t cs) {p:Addr} (hp:g≠p.block) (u:Value):Blk (w.setCell p u) g t cs:=(Below.heap_setCell w p u g hp).trans h
theorem Blk.below {B:Nat} (h:Blk w g t cs) (hb:Below B w w') (hg:g<B):Blk w' g t cs:=(hb.block g hg).trans h
theorem Blk.grown {row:Option Nat} (h:Blk w g t cs) (hb:w.grownBy w' row) (hg:some g≠row):Blk w' g t cs:=(hb.block g h.lt hg).trans h
theorem Blk.ne_ {g':Nat} {t':TypeId} {cs':Array Value} (h:Blk w g t cs) (h':Blk w g' t' cs') (hne:t≠t'):g≠g':=by
 rintro rfl
 unfold Blk at h h'
 rw [h] at h'
 injection h' with h'
 injection h' with _ ht
 exact hne ht
theorem own_blk_ne {base:Nat} {e:TypeId} {size n:Nat} {v:Value} {xs:List Value} (h:w.ownsRow base e size v n xs) (hg:Blk w g t cs) (hne:e≠t):v.ownBlock≠some g:=by
 rcases h.2 with ⟨rfl,_⟩ | ⟨g',cap,cur,rfl,_,hh,_⟩
 ·simp [Value.ownBlock]
 ·intro he
  have:g'=g:=by simpa [Value.ownBlock] using he
  subst this
  exact Blk.ne_ (t:=e) hh hg hne rfl
end
section
variable {P:Program} (w:World)
theorem run_append_of_nil (base:Nat) (t ty e:TypeId) (i:TypeInfo) (size:Nat) (ht:P.underlying t=some (.slice e)) (hi:P.info? e=some i)
  (v:Value) (n:Nat) (xs:List Value) (hown:w.ownsRow base e size v n xs) (c:Nat):(Builtin.append_ #[t,t] ty #[v,.slice none 0 c]).run P w=.ok v w:=by
 rcases hown.2 with ⟨rfl,rfl⟩ | ⟨g,cap,cur,rfl,_,_,hnc,_⟩
 ·simp [Builtin.append_,run_underlying ht,sizeOf,typeInfo,hi,Builtin.lenOf,Builtin.firstCells]
 ·simp [Builtin.append_,run_underlying ht,sizeOf,typeInfo,hi,Builtin.lenOf,Builtin.firstCells,hnc,storeCells]
theorem run_append_any (base:Nat) (t ty e:TypeId) (i:TypeInfo) (z:Value) (size bytes:Nat) (ht:P.underlying t=some (.slice e)) (hi:P.info? e=some i) (hz:i.zero=some z)
  (hsize:i.size=size) (hby:i.bytes=bytes) (hzs:z.cells.size=size) (hsz:0<size)
  (v:Value) (n:Nat) (xs:List Value) (hown:w.ownsRow base e size v n xs)
  (B:Nat) (A:Option Addr) (m c:Nat) (news:List Value) (hr:Reads w B size A m news) (h1:∀ u ∈ news,u.oneCell'=true)
  (h63:n+m≤maxLen) (hbytes:(n+m) * bytes≤140737488355328) (hbase:base≤w.heap.size) :
  ∃ v' w',(Builtin.append_ #[t,t] ty #[v,.slice A m c]).run P w=.ok v' w'∧w'.ownsRow base e size v' (n+m) (xs ++ news)∧w.grownBy w' v.ownBlock ∧
   (v'.ownBlock=v.ownBlock∨v'.ownBlock=some w.heap.size):=by
 rcases A with _ | ad
 ·have hm:m=0:=by
   rcases Nat.eq_zero_or_pos m with h0 | h0
   ·exact h0
   ·obtain ⟨ad,h,_⟩:=hr.2 h0
    cases h
  subst hm
  have hn:news=[]:=List.eq_nil_of_length_eq_zero (by simpa using hr.1)
  subst hn
  exact ⟨v,w,run_append_of_nil w base t ty e i size ht hi v n xs hown c,by simpa using hown,World.grownBy.refl w _,.inl rfl⟩
 ·have hcells:∀ j u,news[j]?=some u→w.cell? (ad.add j)=some u:=by
   intro j u hu
   rcases Nat.eq_zero_or_pos m with h0 | h0
   ·subst h0
    have hn:news=[]:=List.eq_nil_of_length_eq_zero (by simpa using hr.1)
    subst hn
    simp at hu
   ·obtain ⟨ad',h,_,hc⟩:=hr.2 h0
    injection h with h
    subst h
    exact hc j u hu
  obtain ⟨v',w',hrun,h2,h3,_,h5⟩:=run_append_own_at (P:=P) w base t ty e i z size bytes ht hi hz hsize hby hzs hsz v n xs hown ad m c news hr.1 hcells h1 h63 hbytes hbase
  exact ⟨v',w',hrun,h2,h3,h5⟩
theorem wp_append_any {o:Oper} {a:Act} {K:Act→World→Prop} {Q:Exit→Act→World→Prop} (s x:Operand) (t:TypeId)
  (ho:o.op=.call { callee:=.builtin .append,args:=#[s,x],argTypes:=#[t,t] })
  (base:Nat) (e:TypeId) (i:TypeInfo) (z:Value) (size bytes:Nat) (ht:P.underlying t=some (.slice e)) (hi:P.info? e=some i) (hz:i.zero=some z)
  (hsize:i.size=size) (hby:i.bytes=bytes) (hzs:z.cells.size=size) (hsz:0<size)
  (v:Value) (n:Nat) (xs:List Value) (hs:a.eval s=v) (hown:w.ownsRow base e size v n xs)
  (B:Nat) (A:Option Addr) (m c:Nat) (news:List Value) (hx:a.eval x=.slice A m c) (hr:Reads w B size A m news) (h1:∀ u ∈ news,u.oneCell'=true)
  (h63:n+m≤maxLen) (hbytes:(n+m) * bytes≤140737488355328) (hbase:base≤w.heap.size)
  (h:∀ v' w',w'.ownsRow base e size v' (n+m) (xs ++ news)→w.grownBy w' v.ownBlock→(v'.ownBlock=v.ownBlock∨v'.ownBlock=some w.heap.size)→K (a.put o.dst v') w'):o.wp P a w K Q:=by
 obtain ⟨v',w',hrun,h2,h3,h4⟩:=run_append_any (P:=P) w base t o.type e i z size bytes ht hi hz hsize hby hzs hsz v n xs hown B A m c news hr h1 h63 hbytes hbase
 unfold Oper.wp execOp
 simp only [ho,resolve,invoke,builtin,Sem.run_bind,Sem.run_pure,Result.andThen_ok,List.map_toArray,List.map_cons,List.map_nil,hs,hx,hrun]
 exact h v' w' h2 h3 h4
theorem wpList_append_any {ops:Array Oper} {rest:List Oper} {o:Oper} {a:Act} {Q:Exit→Act→World→Prop} (hgd:o.guard=none) (s x:Operand) (t:TypeId)
  (ho:o.op=.call { callee:=.builtin .append,args:=#[s,x],argTypes:=#[t,t] })
  (base:Nat) (e:TypeId) (i:TypeInfo) (z:Value) (size bytes:Nat) (ht:P.underlying t=some (.slice e)) (hi:P.info? e=some i) (hz:i.zero=some z)
  (hsize:i.size=size) (hby:i.bytes=bytes) (hzs:z.cells.size=size) (hsz:0<size)
  (v:Value) (n:Nat) (xs:List Value) (hs:a.eval s=v) (hown:w.ownsRow base e size v n xs)
  (B:Nat) (A:Option Addr) (m c:Nat) (news:List Value) (hx:a.eval x=.slice A m c) (hr:Reads w B size A m news) (h1:∀ u ∈ news,u.oneCell'=true)
  (h63:n+m≤maxLen) (hbytes:(n+m) * bytes≤140737488355328) (hbase:base≤w.heap.size)
  (h:∀ v' w',w'.ownsRow base e size v' (n+m) (xs ++ news)→w.grownBy w' v.ownBlock→(v'.ownBlock=v.ownBlock∨v'.ownBlock=some w.heap.size)→wpList P ops Q rest (a.put o.dst v') w'):wpList P ops Q (o :: rest) a w :=
 wpList_plain hgd fun _ hK=>wp_append_any w s x t ho base e i z size bytes ht hi hz hsize hby hzs hsz v n xs hs hown B A m c news hx hr h1 h63 hbytes hbase fun v' w' h2 h3 h4=>hK _ _ (h v' w' h2 h3 h4)
end
structure Ro where
 e:TypeId
 size:Nat
 v:Value
 n:Nat
 xs:List Value
def Owns (w:World) (B:Nat) (rs:List Ro):Prop :=
 (∀ r ∈ rs,w.ownsRow B r.e r.size r.v r.n r.xs)∧rs.Pairwise (fun r s=>r.v.ownBlock=none∨r.v.ownBlock≠s.v.ownBlock)
section
variable {w w':World} {B:Nat} {rs:List Ro}
theorem Owns.nil_:Owns w B []:=⟨fun r h=>(by cases h),List.Pairwise.nil⟩
theorem Owns.at_ (h:Owns w B rs) {i:Nat} {r:Ro} (hr:rs[i]?=some r):w.ownsRow B r.e r.size r.v r.n r.xs:=h.1 r (List.mem_of_getElem? hr)
theorem Owns.drew (h:Owns w B rs):Owns w.drew B rs:=h
theorem Owns.drewN (h:Owns w B rs) (k:Nat):Owns (w.drewN k) B rs:=h
theorem Owns.keep_ (h:Owns w B rs) (hb:∀ k,k<w.heap.size→w'.heap[k]?=w.heap[k]?):Owns w' B rs :=
 ⟨fun r hr=>by
   have h1:=h.1 r hr
   refine ⟨h1.1,?_⟩
   rcases h1.2 with h2 | ⟨g,cap,cur,hv,hB,hg,rest⟩
   ·exact .inl h2
   ·exact .inr ⟨g,cap,cur,hv,hB,(hb g (Array.getElem?_eq_some_iff.1 hg).1).trans hg,rest⟩,h.2⟩
theorem Owns.below (h:Owns w B rs) (hb:Below w.heap.size w w'):Owns w' B rs:=h.keep_ hb.block
theorem Owns.alloc (h:Owns w B rs) (o:Obj):Owns (w.alloc o) B rs:=h.keep_ fun _ hk=>heap_alloc_old w o hk
theorem Owns.lt_ (h:Owns w B rs) {r:Ro} (hr:r ∈ rs) {k:Nat} (hk:r.v.ownBlock=some k):B≤k∧k<w.heap.size:=(h.1 r hr).lt k hk
theorem Owns.push (h:Owns w B rs) (hb:Below w.heap.size w w') {r:Ro} (hr:w'.ownsRow w.heap.size r.e r.size r.v r.n r.xs) (hB:B≤w.heap.size):Owns w' B (rs ++ [r]):=by
 have h':=h.below hb
 refine ⟨fun s hs=>?_,?_⟩
 ·rcases List.mem_append.1 hs with hs | hs
  ·exact h'.1 s hs
  ·obtain rfl:=List.mem_singleton.1 hs
   refine ⟨hr.1,?_⟩
   rcases hr.2 with h2 | ⟨g,cap,cur,hv,hg0,rest⟩
   ·exact .inl h2
   ·exact .inr ⟨g,cap,cur,hv,by omega,rest⟩
 ·rw [List.pairwise_append]
  refine ⟨h'.2,List.pairwise_singleton _ _,fun s hs t ht=>?_⟩
  obtain rfl:=List.mem_singleton.1 ht
  cases hv:s.v.ownBlock with
  | none=>exact .inl rfl
  | some k =>
   right
   intro he
   have h1:=(h.lt_ hs hv).2
   have h2:=(hr.lt k he.symm).1
   omega
theorem blk_own {g:Nat} {t:TypeId} {cs:Array Value} (h:Blk w g t cs) (hB:B≤g) (hm:cs.size≤maxLen):w.ownsRow B t 1 (.slice (some ⟨g,0,none⟩) cs.size cs.size) cs.size cs.toList :=
 ⟨by simp,.inr ⟨g,cs.size,cs,rfl,hB,h,Nat.le_refl _,hm,by simp,List.take_of_length_le (by simp)⟩⟩
theorem own_blk {g n:Nat} {t:TypeId} {xs:List Value} (h:w.ownsRow B t 1 (.slice (some ⟨g,0,none⟩) n n) n xs):Blk w g t xs.toArray:=by
 rcases h.2 with ⟨h1,_⟩ | ⟨g',cap,cur,hv,_,hg,_,_,hs,ht⟩
 ·cases h1
 ·injection hv with h1 _ h3
  injection h1 with h1
  injection h1 with h1
  subst h1 h3
  have:xs=cur.toList:=by rw [← ht,List.take_of_length_le (by simp [hs])]
  subst this
  simpa [Blk] using hg
theorem Owns.box (h:Owns w B rs) (t:TypeId) (cs:Array Value) (hB:B≤w.heap.size) (hm:cs.size≤maxLen) :
  Owns (w.alloc (.cells cs t)) B (rs ++ [⟨t,1,.slice (some ⟨w.heap.size,0,none⟩) cs.size cs.size,cs.size,cs.toList⟩]) :=
 h.push ((Below.refl _ _).alloc (Nat.le_refl _) _) (blk_own (Blk.new w t cs) (Nat.le_refl _) hm) hB
theorem Owns.turn (h:Owns w B rs) {i:Nat} {r r':Ro} (hr:rs[i]?=some r) (hg:w.grownBy w' r.v.ownBlock) (hr':w'.ownsRow B r'.e r'.size r'.v r'.n r'.xs)
  (hw:r'.v.ownBlock=r.v.ownBlock∨r'.v.ownBlock=none∨∃ k,r'.v.ownBlock=some k∧w.heap.size≤k):Owns w' B (rs.set i r'):=by
 have hi:i<rs.length:=(List.getElem?_eq_some_iff.1 hr).1
 have hmem:r ∈ rs:=List.mem_of_getElem? hr
 have key:∀ j s,j≠i→rs[j]?=some s→(s.v.ownBlock=none∨s.v.ownBlock≠r.v.ownBlock):=by
  intro j s hj hs
  rcases Nat.lt_or_gt_of_ne hj with hlt | hlt
  ·have:=List.pairwise_iff_getElem.1 h.2 j i (List.getElem?_eq_some_iff.1 hs).1 hi hlt
   rw [(List.getElem?_eq_some_iff.1 hs).2,(List.getElem?_eq_some_iff.1 hr).2] at this
   exact this
  ·have:=List.pairwise_iff_getElem.1 h.2 i j hi (List.getElem?_eq_some_iff.1 hs).1 hlt
   rw [(List.getElem?_eq_some_iff.1 hs).2,(List.getElem?_eq_some_iff.1 hr).2] at this
   rcases this with h1 | h1
   ·cases hv:s.v.ownBlock with
    | none=>exact .inl rfl
    | some k=>right;rw [h1];simp
   ·exact .inr (Ne.symm h1)
 have far:∀ j s,j≠i→rs[j]?=some s→(s.v.ownBlock=none∨s.v.ownBlock≠r'.v.ownBlock):=by
  intro j s hj hs
  rcases hw with hw | hw | ⟨k,hw,hk⟩
  ·rw [hw];exact key j s hj hs
  ·cases hv:s.v.ownBlock with
   | none=>exact .inl rfl
   | some k=>right;rw [hw];simp
  ·cases hv:s.v.ownBlock with
   | none=>exact .inl rfl
   | some k' =>
    right
    rw [hw]
    intro he
    injection he with he
    have:=(h.lt_ (List.mem_of_getElem? hs) hv).2
    omega
 refine ⟨fun s hs=>?_,List.pairwise_iff_getElem.2 fun a b ha hb hab=>?_⟩
 ·obtain ⟨j,hj⟩:=List.mem_iff_getElem?.1 hs
  rw [List.getElem?_set] at hj
  split at hj
  ·injection hj with hj
   subst hj
   exact hr'
  ·rename_i hne
   refine (h.at_ hj).kept hg ?_
   rcases key j s (fun e=>hne e.symm) hj with h1 | h1
   ·exact .inl h1
   ·exact .inr h1
 ·rw [List.length_set] at ha hb
  rw [List.getElem_set,List.getElem_set]
  split
  ·rename_i hia
   subst hia
   rw [if_neg (by omega)]
   rcases far b _ (by omega) (List.getElem?_eq_getElem hb) with h1 | h1
   ·cases hv:r'.v.ownBlock with
    | none=>exact .inl rfl
    | some k=>right;rw [h1];simp
   ·exact .inr (Ne.symm h1)
  ·split
   ·rename_i hia hib
    subst hib
    exact far a _ (by omega) (List.getElem?_eq_getElem ha)
   ·exact List.pairwise_iff_getElem.1 h.2 a b ha hb hab
theorem ownsRow_set {e:TypeId} {size n g c j:Nat} {xs:List Value} (h:w.ownsRow B e size (.slice (some ⟨g,0,none⟩) n c) n xs) (_hj:j<xs.length) (u:Value) :
  (w.setCell ⟨g,j,none⟩ u).ownsRow B e size (.slice (some ⟨g,0,none⟩) n c) n (xs.set j u):=by
 refine ⟨by rw [List.length_set];exact h.1,?_⟩
 rcases h.2 with ⟨h1,_⟩ | ⟨g',cap,cur,hv,hB,hg,hn,hm,hs,ht⟩
 ·cases h1
 ·injection hv with h1 _ h3
  injection h1 with h1
  injection h1 with h1
  subst h1 h3
  refine .inr ⟨g,c,cur.setIfInBounds j u,rfl,hB,?_,hn,hm,by simpa using hs,?_⟩
  ·simp [World.setCell,Array.getElem?_modify,hg]
  ·rw [← ht,Array.toList_setIfInBounds,List.take_set]
theorem grownBy_setCell (w:World) (g j:Nat) (u:Value):w.grownBy (w.setCell ⟨g,j,none⟩ u) (some g) :=
 ⟨rfl,rfl,rfl,by simp [World.setCell],fun k _ hk=>Below.heap_setCell w ⟨g,j,none⟩ u k (fun e=>hk (by rw [e]))⟩
theorem Owns.store (h:Owns w B rs) {i:Nat} {e:TypeId} {size n g c j:Nat} {xs:List Value} (hr:rs[i]?=some ⟨e,size,.slice (some ⟨g,0,none⟩) n c,n,xs⟩) (hj:j<xs.length) (u:Value) :
  Owns (w.setCell ⟨g,j,none⟩ u) B (rs.set i ⟨e,size,.slice (some ⟨g,0,none⟩) n c,n,xs.set j u⟩) :=
 h.turn hr (grownBy_setCell w g j u) (ownsRow_set (h.at_ hr) hj u) (.inl rfl)
theorem Owns.cell (h:Owns w B rs) {i:Nat} {e:TypeId} {size n g c j:Nat} {xs:List Value} {u:Value} (hr:rs[i]?=some ⟨e,size,.slice (some ⟨g,0,none⟩) n c,n,xs⟩) (hu:xs[j]?=some u) :
  w.cell? ⟨g,j,none⟩=some u:=by
 have:=(h.at_ hr).cells (g:=g) rfl j u hu
 have e1:(⟨g,0,none⟩:Addr).add j=⟨g,j,none⟩:=by unfold Addr.add;split <;> simp_all
 rwa [e1] at this
theorem Owns.frozen (h:Owns w B rs) {i:Nat} {e:TypeId} {size n g c:Nat} {xs:List Value} (hr:rs[i]?=some ⟨e,size,.slice (some ⟨g,0,none⟩) n c,n,xs⟩) (j:Nat) :
  w.frozen? ⟨g,j,none⟩=false:=by
 rcases (h.at_ hr).2 with ⟨h1,_⟩ | ⟨g',cap,cur,hv,_,hg,_⟩
 ·cases h1
 ·injection hv with h1
  injection h1 with h1
  injection h1 with h1
  subst h1
  simp [World.frozen?,hg]
theorem Owns.base (h:Owns w B rs) {i:Nat} {e:TypeId} {size n g c:Nat} {xs:List Value} (hr:rs[i]?=some ⟨e,size,.slice (some ⟨g,0,none⟩) n c,n,xs⟩):B≤g∧g<w.heap.size :=
 h.lt_ (List.mem_of_getElem? hr) rfl
theorem Owns.swap (h:Owns w B rs) {qs:List Ro} (hp:rs.Perm qs):Owns w B qs :=
 ⟨fun r hr=>h.1 r (hp.mem_iff.2 hr),(hp.pairwise_iff (fun {a b} hab=>by
   rcases hab with h1 | h1
   ·cases hv:b.v.ownBlock with
    | none=>exact .inl rfl
    | some k=>right;rw [h1];simp
   ·exact .inr (Ne.symm h1))).1 h.2⟩
theorem Owns.sub (h:Owns w B rs) {qs:List Ro} (hs:qs.Sublist rs):Owns w B qs:=⟨fun r hr=>h.1 r (hs.subset hr),h.2.sublist hs⟩
end
section
variable {P:Program} (w:World)
theorem wpList_append_owns {ops:Array Oper} {rest:List Oper} {o:Oper} {a:Act} {Q:Exit→Act→World→Prop} (hgd:o.guard=none) (s x:Operand) (t:TypeId)
  (ho:o.op=.call { callee:=.builtin .append,args:=#[s,x],argTypes:=#[t,t] })
  (B:Nat) (rs:List Ro) (k:Nat) (e:TypeId) (size:Nat) (v:Value) (n:Nat) (xs:List Value) (hr:rs[k]?=some ⟨e,size,v,n,xs⟩) (hO:Owns w B rs) (hB:B≤w.heap.size)
  (i:TypeInfo) (z:Value) (bytes:Nat) (ht:P.underlying t=some (.slice e)) (hi:P.info? e=some i) (hz:i.zero=some z)
  (hsize:i.size=size) (hby:i.bytes=bytes) (hzs:z.cells.size=size) (hsz:0<size)
  (hs:a.eval s=v)
  (B':Nat) (A:Option Addr) (m c:Nat) (news:List Value) (hx:a.eval x=.slice A m c) (hn:Reads w B' size A m news) (h1:∀ u ∈ news,u.oneCell'=true)
  (h63:n+m≤maxLen) (hbytes:(n+m) * bytes≤140737488355328)
  (h:∀ v' w',Owns w' B (rs.set k ⟨e,size,v',n+m,xs ++ news⟩)→Below B w w'→w.heap.size≤w'.heap.size→wpList P ops Q rest (a.put o.dst v') w'):wpList P ops Q (o :: rest) a w:=by
 refine wpList_append_any w hgd s x t ho B e i z size bytes ht hi hz hsize hby hzs hsz v n xs hs (hO.at_ hr) B' A m c news hx hn h1 h63 hbytes hB ?_
 intro v' w' hown hg hat
 refine h v' w' (hO.turn hr hg hown ?_) ((Below.refl _ _).grown hg hB (fun j hj=>(hO.lt_ (List.mem_of_getElem? hr) hj).1)) hg.size
 rcases hat with h2 | h2
 ·exact .inl h2
 ·exact .inr (.inr ⟨_,h2,Nat.le_refl _⟩)
end
theorem reads_new (w:World) (t:TypeId) (size n:Nat) (us:List Value) (hl:us.length=n * size):Reads (w.alloc (.cells us.toArray t)) (w.heap.size+1) size (some ⟨w.heap.size,0,none⟩) n us:=by
 refine ⟨hl,fun _=>⟨_,rfl,Nat.lt_succ_self _,fun j u hu=>?_⟩⟩
 have e1:(⟨w.heap.size,0,none⟩:Addr).add j=⟨w.heap.size,j,none⟩:=by unfold Addr.add;split <;> simp_all
 rw [e1,(Blk.new w t us.toArray).cell]
 simpa using hu
theorem ownsRow_some {w:World} {B:Nat} {e:TypeId} {size n:Nat} {v:Value} {xs:List Value} (h:w.ownsRow B e size v n xs) (hn:0<n):∃ g c,v=.slice (some ⟨g,0,none⟩) n c:=by
 rcases h.2 with ⟨_,h0⟩ | ⟨g,cap,_,hv,_⟩
 ·omega
 ·exact ⟨g,cap,hv⟩
theorem ownsRow_slice {w:World} {B:Nat} {e:TypeId} {size n:Nat} {v:Value} {xs:List Value} (h:w.ownsRow B e size v n xs):∃ A c,v=.slice A n c∧n≤c∧c≤maxLen:=by
 rcases h.2 with ⟨rfl,rfl⟩ | ⟨g,cap,_,hv,_,_,h1,h2,_⟩
 ·exact ⟨none,0,rfl,Nat.le_refl _,Nat.zero_le _⟩
 ·exact ⟨_,cap,hv,h1,h2⟩
theorem take_snoc {α:Type} (l:List α) (d:α) (k:Nat) (h:k<l.length):l.take (k+1)=l.take k ++ [l[k]?.getD d]:=by
 rw [List.take_add_one,List.getElem?_eq_getElem h];rfl
theorem get_map {α:Type} (f:α→Value) (l:List α) (d:α) (k:Nat) {u:Value} (h:k<l.length) (hu:(l.map f)[k]?=some u):u=f (l[k]?.getD d):=by
 rw [List.getElem?_map,List.getElem?_eq_getElem h] at hu
 rw [List.getElem?_eq_getElem h]
 simpa using hu.symm
theorem hide_ {p:Prop} (h:p):Go.RowKit.Hid p:=h
end Go.Proofs.YtikbegmodacopaaGreatDoor
namespace Go.Proofs.YtikbegmodacopaaGreatDoor
open Go.RowKit Go.PlainAid
set_option linter.unusedVariables false
end Go.Proofs.YtikbegmodacopaaGreatDoor
namespace Go.Proofs.YtikbegmodacopaaGreatDoor
open Go.RowKit Go.PlainAid Go.Shelf
theorem HasPrefix_short (t:ByteArray) (w:World) (h:t.size<3) :
  Calls Tryz.prog 133 #[.string t,.string ⟨#[239,191,189]⟩] w fun e w'=>e=.returned (.bool false)∧w=w':=by
 have hd:decide ((3:Int)≤(t.size:Int))=false:=by simp;omega
 go_enter Tryz.func133,Tryz.ntmps133
 go_wp2
 go_ret
 exact ⟨rfl,rfl⟩
set_option maxRecDepth 100000 in
theorem HasPrefix_long (t:ByteArray) (w:World) (h:3≤t.size) :
  Calls Tryz.prog 133 #[.string t,.string ⟨#[239,191,189]⟩] w fun e w'=>e=.returned (.bool ((t.extract 0 3).toList == [239,191,189]))∧w=w':=by
 go_enter Tryz.func133,Tryz.ntmps133
 go_wp2
 go_ret
 exact ⟨rfl,rfl⟩
theorem drop_get (s:ByteArray) (i:Nat) (h:i<s.size):s.data.toList.drop i=s.get! i :: s.data.toList.drop (i+1):=by
 rw [List.drop_eq_getElem_cons (by simpa using h),get!_eq s i h]
 rfl
theorem ext3 (s:ByteArray) (i:Nat) (h:i+3≤s.size):((s.extract i s.size).extract 0 3).toList=[s.get! i,s.get! (i+1),s.get! (i+2)]:=by
 rw [ByteArray.toList_eq,Lib.extract_data,Lib.extract_data,drop_get s i (by omega),drop_get s (i+1) (by omega),drop_get s (i+1+1) (by omega)]
 obtain ⟨m,hm⟩:∃ m,s.size - i=m+3:=⟨s.size - i - 3,by omega⟩
 rw [hm]
 rfl
theorem HasPrefix_no (s:ByteArray) (i:Nat) (w:World) (hl:lost s i) :
  Calls Tryz.prog 133 #[.string (s.extract i s.size),.string ⟨#[239,191,189]⟩] w fun e w'=>e=.returned (.bool false)∧w=w':=by
 by_cases h:s.size<i+3
 ·exact HasPrefix_short _ w (by simp [ByteArray.size_extract];omega)
 ·refine (HasPrefix_long _ w (by simp [ByteArray.size_extract];omega)).mono ?_
  rintro e w' ⟨rfl,rfl⟩
  refine ⟨?_,rfl⟩
  have:((s.extract i s.size).extract 0 3).toList≠[239,191,189]:=by
   rw [ext3 s i (by omega)]
   intro he
   simp only [List.cons.injEq,and_true] at he
   obtain ⟨h0,h1,h2⟩:=he
   have:=fffd_back s i (by omega) (by unfold bn;rw [h0];rfl) (by unfold bn;rw [h1];rfl) (by unfold bn;rw [h2];rfl)
   have h3:=hl.2
   rw [this] at h3
   cases h3
  rw [show (((s.extract i s.size).extract 0 3).toList == [239,191,189])=false from by simpa using this]
theorem HasPrefix_yes (s:ByteArray) (i:Nat) (w:World) (hi:i<s.size) (hd:(Utf8.decode s i).1=65533) (hl:¬ lost s i) :
  Calls Tryz.prog 133 #[.string (s.extract i s.size),.string ⟨#[239,191,189]⟩] w fun e w'=>e=.returned (.bool true)∧w=w':=by
 rcases fffd s i hi hd with h1 | ⟨_,h3,b0,b1,b2⟩
 ·exact (hl ⟨hd,h1⟩).elim
 ·refine (HasPrefix_long _ w (by simp [ByteArray.size_extract];omega)).mono ?_
  rintro e w' ⟨rfl,rfl⟩
  refine ⟨?_,rfl⟩
  have u:∀ (x:UInt8) (n:Nat),n<256→x.toNat=n→x=UInt8.ofNat n:=fun x n _ h=>by rw [← h];simp
  rw [ext3 s i h3,u _ 239 (by omega) b0,u _ 191 (by omega) b1,u _ 189 (by omega) b2]
  rfl
def KpT (n₀:Nat) (A B:World):Prop:=Below n₀ A B∧KeepsWalks A B
theorem KpT_b {n₀:Nat} {w:World} (hn:n₀≤w.heap.size) (W:World) (l:Nat) (o o':Obj) (hl:w.heap.size≤l) (h:W.heap[l]?=some o) (hc:o.isCells=false) (hw:o.isWalk=false):KpT n₀ W (W.putObj l o') :=
 ⟨belowK_b hn W l o o' hl h hc hw,walksK_b (w:=w) W l o o' hl h hc hw⟩
abbrev encT (x:Nat × Int):Array Value:=#[.int .i64 x.1,.int .i32 x.2]
theorem cutting_any (s:ByteArray) (w:World) :
  Calls Tryz.prog 196 #[.string s] w fun e w'=>e=.returned (.func (.func 217) #[] #[.pointer (some ⟨w.heap.size,0,none⟩)])∧w.alloc (.cells #[.string s] 9)=w':=by
 go_enter Tryz.func196,Tryz.ntmps196
 go_wp2
 go_ret
 exact ⟨rfl,rfl⟩
abbrev CutT (s:ByteArray):={x:Nat × Int // x ∈ cuts s}
end Go.Proofs.YtikbegmodacopaaGreatDoor
namespace Go.Proofs.YtikbegmodacopaaGreatDoor
set_option maxRecDepth 100000
open Go.RowKit Go.PlainAid Go.Shelf
def updA (a:Act) (p q P Q:Nat) (x:Nat × Int):Act :=
 { tmps:=(((a.tmps.setIfInBounds p (.int .i64 x.1)).setIfInBounds q (.int .i32 x.2)).setIfInBounds P (.int .i64 x.1)).setIfInBounds Q (.int .i32 x.2),defers:=[] }
theorem ownFrom_obj {β:Type} {B D:Nat} {o:Obj} (hD:D<B):OwnFrom B (fun (_:β) W=>W.heap[D]?=some o):=fun _ _ _ _ hs hg hr =>
 (hg.block D (Array.getElem?_eq_some_iff.1 hs).1 (fun e=>by have:=(hr D e.symm).1;omega)).trans hs
theorem putObj_heap_ne {W:World} {k l:Nat} {o:Obj} (h:k≠l):(W.putObj l o).heap[k]?=W.heap[k]?:=World.putObj_heap_other h
theorem fold2 (t:Array Value) (p q:Nat) (x:Nat × Int):(#[p,q].zip (encT x)).foldl (fun t (p,v)=>t.setIfInBounds p v) t=(t.setIfInBounds p (.int .i64 x.1)).setIfInBounds q (.int .i32 x.2):=by
 simp [encT]
section
variable {g:Operand} {p q P' Q':Nat} {assign body:Code} {Q:Exit→Act→World→Prop} {a:Act} {w:World} {Bn n₀ n:Nat} {s:ByteArray}
end
end Go.Proofs.YtikbegmodacopaaGreatDoor
namespace Go.Proofs.YtikbegmodacopaaGreatDoor
open Go.RowKit Go.PlainAid Go.Shelf
def KpB (Bn:Nat) (A B:World):Prop:=(Bn<A.heap.size→B.heap[Bn]?=A.heap[Bn]?)∧KeepsWalks A B
theorem KpB_t {Bn:Nat} {A B C:World} (h:KpB Bn A B) (k:KpB Bn B C):KpB Bn A C:=⟨fun g=>(k.1 (Nat.lt_of_lt_of_le g h.2.size)).trans (h.1 g),h.2.trans k.2⟩
theorem KpB_cell {Bn:Nat} {A B:World} (h:KpB Bn A B) (g:Bn<A.heap.size):B.cell? ⟨Bn,0,none⟩=A.cell? ⟨Bn,0,none⟩:=World.cell?_of_block (h.1 g)
theorem KpB_b {Bn B:Nat} (hB:Bn<B) (W:World) (l:Nat) (o o':Obj) (hl:B≤l) (h:W.heap[l]?=some o) (hc:o.isCells=false) (hw:o.isWalk=false):KpB Bn W (W.putObj l o') :=
 ⟨fun _=>putObj_heap_ne (by omega),(KpT_b (n₀:=B) (w:={ W with heap:=W.heap.extract 0 B }) (by have:=(Array.getElem?_eq_some_iff.1 h).1;simp;omega) W l o o' (by simp;omega) h hc hw).2⟩
set_option maxRecDepth 100000 in
set_option maxHeartbeats 1000000 in
theorem cut1_inB (n:Nat) (hn:1≤n) (l Bn B:Nat) (s:ByteArray) (J Jx:List (Nat × Int)→World→Prop) (hJ:AbidesFrom B J)
  (hY:∀ pre x W,x ∈ cuts s→J pre W→pre.length<(cuts s).length→YieldAt Fence.wide (n - 1) Tryz.prog l (encT x) W fun e W' =>
    (e=.returned (.bool true)∧J (pre ++ [x]) W'∧KpB Bn W W')∨(e=.returned (.bool false)∧Jx (pre ++ [x]) W'))
  (W:World) (hB:B≤W.heap.size) (hBn:Bn<W.heap.size) (hc:W.cell? ⟨Bn,0,none⟩=some (.string s)) (h0:J [] W) :
  CallsIn Fence.wide n Tryz.prog 217 #[.func (.yield l) #[] #[],.pointer (some ⟨Bn,0,none⟩)] W fun e W'=>(∃ v,e=.returned v) ∧
   ((∃ ys,ys=cuts s∧J ys W')∨(∃ pre,pre <+: cuts s∧Jx pre W')):=by
 refine callsIn_of_wp Tryz.func217 rfl trivial ?_ rfl
 simp only [Tryz.ntmps217,List.size_toArray,List.length_cons,List.length_nil,Nat.reduceAdd,Nat.reduceSub,Array.replicate_succ,Array.replicate_zero,List.push_toArray,List.append_toArray,List.nil_append,List.cons_append]
 have hWi:(W.iter s 0).heap[W.heap.size]?=some (.stringIter s 0):=World.iter_heap W s 0
 have hsz:W.heap.size<(W.iter s 0).heap.size:=(Array.getElem?_eq_some_iff.1 hWi).1
 have hK0:KpB Bn W (W.iter s 0):=⟨fun h=>Below.heap_alloc _ _ _ h,KeepsWalks.alloc _ _⟩
 have hJ0:J [] (W.iter s 0):=hJ [] W (W.iter s 0) none h0 (World.grownBy_alloc W _ none) (fun r h=>by cases h)
 obtain ⟨bi,hbi⟩:∃ bi,bi=W.heap.size:=⟨_,rfl⟩
 have Hbi:=hide_ hbi
 gi_wp2
 gi_loopw [7] (fun _ wr=>∃ (pre:List (Nat × Int)) (pos:Nat),cuts s=pre ++ cutsAt s pos∧pos≤s.size∧wr.heap[W.heap.size]?=some (.stringIter s pos)∧wr.cell? ⟨Bn,0,none⟩=some (.string s)∧KpB Bn W wr∧J pre wr) (fun _ wr=>s.size - wr.iterPos W.heap.size)
 case atStart=>exact ⟨[],0,(cuts_at s),Nat.zero_le _,hWi,(KpB_cell hK0 hBn).trans hc,hK0,hJ0⟩
 case round =>
  clear hWi hsz hK0 hJ0
  obtain ⟨pre,pos,hcut,hpos,hit,hcs,hK,hJs⟩:=hrel
  have HC:=hide_ hcut
  have HIT:=hide_ hit
  clear hcut
  by_cases hlt:pos<s.size
  ·have hnx0:=fun ty=>Lib.run_next_any_at (P:=Tryz.prog) wr W.heap.size s pos ty hit hlt
   have hgr:wr.grownBy (wr.iterAt W.heap.size s (pos+cutN s pos)) (some W.heap.size):=⟨rfl,rfl,rfl,by rw [Lib.iterAt_size];exact Nat.le_refl _,fun k _ hk=>Lib.iterAt_other wr W.heap.size k s _ (fun e=>hk (by rw [e]))⟩
   have hJ1:J pre (wr.iterAt W.heap.size s (pos+cutN s pos)):=hJ pre wr _ _ hJs hgr (fun r e=>by cases e;exact ⟨hB,_,hit,rfl⟩)
   have hK1:KpB Bn W (wr.iterAt W.heap.size s (pos+cutN s pos)):=⟨fun h=>(Lib.iterAt_other _ _ _ _ _ (by omega)).trans (hK.1 h),⟨by rw [Lib.iterAt_size];exact hK.2.size,fun k o hk ho=>by
    have hlt':k<W.heap.size:=(Array.getElem?_eq_some_iff.1 hk).1
    rw [Lib.iterAt_other _ _ _ _ _ (by omega)]
    exact hK.2.same k o hk ho⟩⟩
   have hit1:(wr.iterAt W.heap.size s (pos+cutN s pos)).heap[W.heap.size]?=some (.stringIter s (pos+cutN s pos)):=Lib.iterAt_heap _ _ _ _ _ hit
   have hcs1:(wr.iterAt W.heap.size s (pos+cutN s pos)).cell? ⟨Bn,0,none⟩=some (.string s):=by
    rw [World.cell?_of_block (w:=wr) (Lib.iterAt_other wr W.heap.size Bn s _ (by omega))];exact hcs
   have hnp:=cutN_pos s pos
   have hnf:=cutN_fits s pos hlt
   have hlen:pre.length<(cuts s).length:=by rw [HC.out,cutsAt_lt s pos hlt];simp
   have HS:=hide_ (show cuts s=(pre ++ [(pos,cutR s pos)]) ++ cutsAt s (pos+cutN s pos) by rw [HC.out,cutsAt_lt s pos hlt];simp)
   have HM:=hide_ (iterPos_of hit)
   obtain ⟨w1,hw1⟩:∃ w1,w1=wr.iterAt W.heap.size s (pos+cutN s pos):=⟨_,rfl⟩
   obtain ⟨c,hcd⟩:∃ c:Int,c=((Utf8.decode s pos).1:Int):=⟨_,rfl⟩
   rw [← hw1] at hJ1 hK1 hit1 hcs1
   have hnx:∀ ty,(Instr.next (.pointer (some ⟨W.heap.size,0,none⟩)) true ty).run Tryz.prog wr=.ok (.tuple #[.bool true,.int .i64 pos,.int .i32 c]) w1:=fun ty=>by rw [hnx0 ty,hcd,hw1];rfl
   have HN:=hide_ hit1
   have HK:=hide_ hK1
   have HD:=hide_ hcd
   have HIB:=hide_ hbi
   clear hnx0 hit HIT hgr hK hJs hw1 hit1 hK1 hcd hcs hbi Hbi HC
   have hc32:0≤c∧c≤1114111:=by
    have:=(decodeN_rune (s.size - pos) (s.get! pos).toNat (s.get! (pos+1)).toNat (s.get! (pos+2)).toNat (s.get! (pos+3)).toNat).1
    rw [← Lib.decode_at] at this
    rw [HD.out];omega
   have fin:∀ r:Int,r=cutR s pos→YieldAt Fence.wide (n - 1) Tryz.prog l #[.int .i64 pos,.int .i32 r] w1 fun e W' =>
     (e=.returned (.bool true)∧J (pre ++ [(pos,cutR s pos)]) W'∧KpB Bn w1 W')∨(e=.returned (.bool false)∧Jx (pre ++ [(pos,cutR s pos)]) W'):=fun r hr=>by
    have:=hY pre (pos,cutR s pos) w1 (by rw [HS.out];simp) hJ1 hlen
    rw [hr]
    exact this
   clear hY hJ hJ1
   by_cases hl:lost s pos
   ·have hd:(c == 65533)=true:=by rw [HD.out,hl.1];rfl
    have hb:=get_bt s
    have hb0:=bt_nonneg s pos
    have hb1:=bt_le s pos
    obtain ⟨fn,tmps,assign,body,hy,hR⟩:=fin (-1 - bt s pos) (by unfold cutR;rw [if_pos hl,bt_eq s pos hlt])
    clear fin
    gi_wp2_with (refine ⟨trivial,?_⟩;gi_at_call 133;refine (callsIn_wide.2 (HasPrefix_no s pos _ hl)).mono ?_;rintro e w' ⟨rfl,rfl⟩)
    refine hR.mono ?_
    rintro e W3 (⟨rfl,hJ3,hk3⟩ | ⟨rfl,hJx3⟩)
    ·gi_wp2
     go_roundw
     case rel=>exact ⟨_,_,HS.out,hnf,hk3.2.same _ _ HN.out rfl,(KpB_cell hk3 (Nat.lt_of_lt_of_le hBn HK.out.2.size)).trans hcs1,KpB_t HK.out hk3,hJ3⟩
     case measure=>rw [iterPos_of (hk3.2.same _ _ HN.out rfl),HM.out];omega
    ·gi_wp2
     refine bodyPost_ret (results_none rfl _ _ _) rfl ?_
     exact ⟨⟨_,rfl⟩,.inr ⟨_,⟨_,HS.out.symm⟩,hJx3⟩⟩
   ·by_cases hf:(Utf8.decode s pos).1=65533
    ·obtain rfl:c=65533:=by rw [HD.out,hf];rfl
     obtain ⟨fn,tmps,assign,body,hy,hR⟩:=fin 65533 (by unfold cutR;rw [if_neg hl,hf];rfl)
     clear fin
     gi_wp2_with (refine ⟨trivial,?_⟩;gi_at_call 133;refine (callsIn_wide.2 (HasPrefix_yes s pos _ hlt hf hl)).mono ?_;rintro e w' ⟨rfl,rfl⟩)
     refine hR.mono ?_
     rintro e W3 (⟨rfl,hJ3,hk3⟩ | ⟨rfl,hJx3⟩)
     ·gi_wp2
      go_roundw
      case rel=>exact ⟨_,_,HS.out,hnf,hk3.2.same _ _ HN.out rfl,(KpB_cell hk3 (Nat.lt_of_lt_of_le hBn HK.out.2.size)).trans hcs1,KpB_t HK.out hk3,hJ3⟩
      case measure=>rw [iterPos_of (hk3.2.same _ _ HN.out rfl),HM.out];omega
     ·gi_wp2
      refine bodyPost_ret (results_none rfl _ _ _) rfl ?_
      exact ⟨⟨_,rfl⟩,.inr ⟨_,⟨_,HS.out.symm⟩,hJx3⟩⟩
    ·have hd:(c == 65533)=false:=by rw [HD.out,beq_eq_false_iff_ne];omega
     obtain ⟨fn,tmps,assign,body,hy,hR⟩:=fin c (by unfold cutR;rw [if_neg hl,HD.out])
     clear fin
     gi_wp2
     refine ⟨trivial,?_⟩
     gi_wp2
     refine hR.mono ?_
     rintro e W3 (⟨rfl,hJ3,hk3⟩ | ⟨rfl,hJx3⟩)
     ·gi_wp2
      go_roundw
      case rel=>exact ⟨_,_,HS.out,hnf,hk3.2.same _ _ HN.out rfl,(KpB_cell hk3 (Nat.lt_of_lt_of_le hBn HK.out.2.size)).trans hcs1,KpB_t HK.out hk3,hJ3⟩
      case measure=>rw [iterPos_of (hk3.2.same _ _ HN.out rfl),HM.out];omega
     ·gi_wp2
      refine bodyPost_ret (results_none rfl _ _ _) rfl ?_
      exact ⟨⟨_,rfl⟩,.inr ⟨_,⟨_,HS.out.symm⟩,hJx3⟩⟩
  ·have hnx:=fun ty=>Lib.run_next_end_at (P:=Tryz.prog) wr W.heap.size s pos ty hit hlt
   clear hit
   gi_wp2
   go_end0
   exact ⟨⟨_,rfl⟩,.inl ⟨pre,by rw [HC.out,cutsAt_ge s pos (by omega),List.append_nil],hJs⟩⟩
theorem cut_stopsB (n:Nat) (hn:1≤n) (Bn:Nat) (s:ByteArray) (w:World) (hBn:Bn<w.heap.size) (hc:w.cell? ⟨Bn,0,none⟩=some (.string s)) :
  SeqStopsK Fence.wide n Tryz.prog 217 #[.pointer (some ⟨Bn,0,none⟩)] (fun (x:CutT s)=>encT x.1) (KpB Bn) (fun ys=>ys.map (·.1)=cuts s) (fun pre=>pre.map (·.1) <+: cuts s) (cuts s).length w:=fun l J Jx W hW hJ _ hY h0=>by
 refine (cut1_inB n hn l Bn W.heap.size s (fun pre W=>∃ p:List (CutT s),p.map (·.1)=pre∧J p W) (fun pre W=>∃ p:List (CutT s),p.map (·.1)=pre∧Jx p W)
  (fun pre A B row hs hg hr=>by obtain ⟨p,hp,hj⟩:=hs;exact ⟨p,hp,hJ p A B row hj hg hr⟩)
  (fun pre x V hx hj hl=>?_) W (Nat.le_refl _) (Nat.lt_of_lt_of_le hBn hW.size) ((hW.cell (p:=⟨Bn,0,none⟩) (by simp;omega)).trans hc) ⟨[],rfl,h0⟩).mono ?_
 ·obtain ⟨p,rfl,hj⟩:=hj
  refine (hY p ⟨x,hx⟩ V hj (by simpa using hl)).mono ?_
  rintro e V' (⟨he,hj',hk⟩ | ⟨he,hj'⟩)
  ·exact .inl ⟨he,⟨_,by simp,hj'⟩,hk⟩
  ·exact .inr ⟨he,_,by simp,hj'⟩
 ·rintro e V' ⟨he,⟨ys,rfl,p,hp,hj⟩ | ⟨pre,hpre,p,rfl,hj⟩⟩
  ·exact ⟨he,.inl ⟨p,hp,hj⟩⟩
  ·exact ⟨he,.inr ⟨p,hpre,hj⟩⟩
section
variable {g:Operand} {p q P' Q':Nat} {assign body:Code} {Q:Exit→Act→World→Prop} {a:Act} {w:World} {Bn n:Nat} {s:ByteArray}
theorem rangeB (hn:6≤n) (hg:a.eval g=.func (.func 217) #[] #[.pointer (some ⟨Bn,0,none⟩)]) (hBn:Bn<w.heap.size) (hc:w.cell? ⟨Bn,0,none⟩=some (.string s))
  (I:List (Nat × Int)→World→Prop) (Ix:Code→List (Nat × Int)→World→Prop) (hI:OwnFrom w.heap.size I) (hIx:∀ c,OwnFrom w.heap.size (Ix c)) (h0:I [] w)
  (hassign:∀ (l:Nat) (x:Nat × Int) (W:World) (K:Act→World→Prop),K (updA a p q P' Q' x) W →
    assign.wpIn (Fence.wide.inRound l) (n - 1 - 1) Tryz.prog (Exit.then K (fun _ _ _=>False)) { tmps:=(a.tmps.setIfInBounds p (.int .i64 x.1)).setIfInBounds q (.int .i32 x.2),defers:=[] } W)
  (hbody:∀ (l:Nat) (pre:List (Nat × Int)) (x:Nat × Int) (W:World),x ∈ cuts s→w.heap.size≤l→(∃ r,W.heap[l]?=some (.loop r))→I pre W→pre.length<(cuts s).length →
    body.wpIn (Fence.wide.inRound l) (n - 1 - 1) Tryz.prog (ownPostG w.heap.size (KpB Bn) I Ix (pre ++ [x]) W) (updA a p q P' Q' x) W)
  (hdone:∀ (D:Nat) (W:World),w.heap.size≤D→I (cuts s) W→W.heap[D]?=some (.deferred (some []))→Q .normal { a with defers:={ target:=.collected D,args:=#[] } :: a.defers } W)
  (hstop:∀ (D:Nat) (c:Code) (pre:List (Nat × Int)) (W:World),w.heap.size≤D→pre <+: cuts s→Ix c pre W→W.heap[D]?=some (.deferred (some []))→c.wpIn Fence.wide n Tryz.prog Q { a with defers:={ target:=.collected D,args:=#[] } :: a.defers } W) :
  (Code.rangeFunc g #[p,q] assign body).wpIn Fence.wide n Tryz.prog Q a w :=
 wpIn_rangeFunc_ownH rfl (by omega) hg trivial (enters_of Tryz.func217 (by kernel_rfl) rfl) (cut_stopsB (n - 1) (by omega) Bn s w hBn hc) KpB_t (KpB_b hBn) (Below.refl _ _) (fun _=>rfl)
  (fun pre=>I (pre.map (·.1))) (fun c pre=>Ix c (pre.map (·.1))) (fun pre=>hI (pre.map (·.1))) (fun c pre=>hIx c (pre.map (·.1))) h0 (fun x a' _=>a'=updA a p q P' Q' x.1) (fun _ _ _ _ _ _ hs _ _=>hs)
  (fun l pre x W K hi hK=>by rw [fold2];exact hassign l x.1 W K (hK _ _ (KeepsFrom.refl _ _) ⟨fun _=>rfl,KeepsWalks.refl _⟩ hi rfl))
  (fun l pre x a' W hl hr hi e hlen=>by
    subst e
    have:=hbody l (pre.map (·.1)) x.1 W x.2 hl hr hi (by simpa using hlen)
    rw [show pre.map (·.1) ++ [x.1]=(pre ++ [x]).map (·.1) by simp] at this
    exact this)
  (fun D xs W hD hS hi hk=>by
    have hS':xs.map (·.1)=cuts s:=hS
    simp only [hS'] at hi
    exact hdone D W hD hi hk)
  (fun D c pre W hD hS hi hk=>hstop D c (pre.map (·.1)) W hD hS hi hk)
end
end Go.Proofs.YtikbegmodacopaaGreatDoor
