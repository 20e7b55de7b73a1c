/-
  Joined and packed by program.
-/
import Derived.Test.YtikbegmodacopaaGreatDoorC02
import Derived.Test.YtikbegmodacopaaGreatDoorC01
import Derived.Test.YtikbegmodacopaaGreatDoorProg
import Derived.Shelf.Strings.BuilderK
import Derived.PlainAid
namespace Go.Proofs.YtikbegmodacopaaGreatDoor
open Go.RowKit Go.PlainAid
theorem conv_new (w:World) (l:List Nat) (c:Nat) :
  (convert 24 9 (.slice (some ⟨w.heap.size,0,none⟩) l.length c)).run Tryz.prog (w.alloc (.cells (n8s l).toArray 5))=.ok (.string (textOf l)) (w.alloc (.cells (n8s l).toArray 5)) :=
 run_text_of_reads (P:=Tryz.prog) _ (w.heap.size+1) 24 5 Tryz.underlying24 Tryz.underlying5 _ _ c l (reads_new w 5 1 l.length (n8s l) (by simp)) 9 Tryz.underlying9
end Go.Proofs.YtikbegmodacopaaGreatDoor
namespace Go.Proofs.YtikbegmodacopaaGreatDoor
set_option maxRecDepth 100000
open Go.RowKit Go.PlainAid
def escB (c:Int) (b:Bool):List Nat:=if b then [c.toNat] else codeL c.toNat
end Go.Proofs.YtikbegmodacopaaGreatDoor
namespace Go.Proofs.YtikbegmodacopaaGreatDoor
set_option maxRecDepth 100000
open Go.RowKit Go.PlainAid
end Go.Proofs.YtikbegmodacopaaGreatDoor
namespace Go.Proofs.YtikbegmodacopaaGreatDoor
set_option maxRecDepth 100000
open Go.RowKit Go.PlainAid
end Go.Proofs.YtikbegmodacopaaGreatDoor
namespace Go.Proofs.YtikbegmodacopaaGreatDoor
set_option maxRecDepth 100000
open Go.RowKit Go.PlainAid
def sayB (s:ByteArray) (i:Nat):List Nat:=escB (sayN s i).1 (sayN s i).2.1
end Go.Proofs.YtikbegmodacopaaGreatDoor
namespace Go.Proofs.YtikbegmodacopaaGreatDoor
set_option maxRecDepth 100000
open Go.RowKit Go.PlainAid
set_option linter.unusedVariables false
theorem cutN_le4 (s:ByteArray) (i:Nat):cutN s i≤4:=by
 unfold cutN
 rw [Lib.decode_at]
 unfold Lib.decodeN
 repeat' split
 all_goals simp
theorem escN_ok (s:ByteArray) (i:Nat) (c:Int) (b:Bool) (k:Nat) (h:escN s i=some (c,b,k)):0≤c∧(b=true→c<256)∧(b=false→isRune c.toNat)∧2≤k∧k≤6:=by
 have hb:=bn_lt s (i+1)
 have h2:=hexW_bd s (i+2) 2
 have h4:=hexW_bd s (i+2) 4
 have e16:(16:Int) ^ 2=256:=by decide
 have e64:(16:Int) ^ 4=65536:=by decide
 rw [e16] at h2
 rw [e64] at h4
 unfold escN at h
 unfold isRune
 repeat' split at h
 all_goals
  simp only [Option.some.injEq,Prod.mk.injEq,reduceCtorEq] at h
 all_goals
  obtain ⟨rfl,rfl,rfl⟩:=h
  refine ⟨by omega,fun e=>?_,fun e=>?_,by omega,by omega⟩ <;> first | omega | simp at e
theorem sayN_k (s:ByteArray) (i:Nat):(sayN s i).2.2.1≤6:=by
 unfold sayN
 split
 ·split
  ·simp
  ·rename_i h;exact (escN_ok s i _ _ _ h).2.2.2.2
 ·split
  ·simp
  ·split
   ·simp
   ·have:=cutN_le4 s i;simp;omega
def runeN (s:ByteArray):Int × Int × Int :=
 if s.size=0 then (0,0,11) else if bn s 0≠39 then (0,0,11) else if s.size=1 then (0,1,11) else if bn s 1=39 then (0,1,10)
 else if (sayN s 1).2.2.2≠0 then (0,1,(sayN s 1).2.2.2)
 else if s.size≤1+(sayN s 1).2.2.1 then (0,1+(sayN s 1).2.2.1,11)
 else if bn s (1+(sayN s 1).2.2.1)≠39 then (0,1+(sayN s 1).2.2.1,11)
 else if 2+(sayN s 1).2.2.1<s.size then (0,2+(sayN s 1).2.2.1,10)
 else ((sayN s 1).1,0,0)
abbrev RuneIs (x:Int × Int × Int) (w:World) (e:Ending) (w':World):Prop:=e=.returned (.tuple #[.int .i32 x.1,.int .i64 x.2.1,.int .i64 x.2.2])∧Below w.heap.size w w'
theorem not_empty (s:ByteArray) (h:0<s.size):s.toList.isEmpty=false:=by
 rw [ByteArray.toList_eq]
 have h':0<s.data.toList.length:=by simpa using h
 cases e:s.data.toList with
 | nil=>rw [e] at h';exact absurd h' (by decide)
 | cons x l=>rfl
theorem is_empty (s:ByteArray) (h:s.size=0):s=ByteArray.mk #[]:=by
 obtain ⟨d⟩:=s
 have hd:d.size=0:=h
 rw [Array.eq_empty_of_size_eq_zero hd]
theorem trune_0 (w:World):Calls Tryz.prog 220 #[.string ⟨#[]⟩] w (RuneIs (0,0,11) w):=by
 go_enter Tryz.func220,Tryz.ntmps220
 go_wp2
 go_ret3
 exact ⟨rfl,Below.refl _ _⟩
set_option maxHeartbeats 1000000 in
theorem trune_1 (s:ByteArray) (w:World) (h0:0<s.size) (h1:bt s 0≠39) :
  Calls Tryz.prog 220 #[.string s] w (RuneIs (0,0,11) w):=by
 have hbt:=get_bt s
 have hne:=not_empty s (by omega)
 have h2:(bt s 0 != 39)=true:=bne_iff_ne.2 h1
 clear h1
 go_enter Tryz.func220,Tryz.ntmps220
 go_wp2
 go_ret3
 exact ⟨rfl,Below.refl _ _⟩
set_option maxHeartbeats 1000000 in
theorem trune_2 (s:ByteArray) (w:World) (h0:s.size=1) (h1:bt s 0=39) :
  Calls Tryz.prog 220 #[.string s] w (RuneIs (0,1,11) w):=by
 have hbt:=get_bt s
 have hne:=not_empty s (by omega)
 go_enter Tryz.func220,Tryz.ntmps220
 go_wp2
 go_ret3
 exact ⟨rfl,Below.refl _ _⟩
set_option maxHeartbeats 1000000 in
theorem trune_3 (s:ByteArray) (w:World) (h0:1<s.size) (h1:bt s 0=39) (h2:bt s 1=39) :
  Calls Tryz.prog 220 #[.string s] w (RuneIs (0,1,10) w):=by
 have hbt:=get_bt s
 have hne:=not_empty s (by omega)
 go_enter Tryz.func220,Tryz.ntmps220
 go_wp2
 go_ret3
 exact ⟨rfl,Below.refl _ _⟩
set_option maxHeartbeats 1000000 in
theorem trune_4 (s:ByteArray) (w:World) (hz:s.size≤1152921504606846976) (h0:1<s.size) (h1:bt s 0=39) (h2:bt s 1≠39) (c:Int) (b:Bool) (k:Nat) (er:Int) (hN:sayN s 1=(c,b,k,er)) (hk:k≤6) (he:er≠0) :
  Calls Tryz.prog 220 #[.string s] w (RuneIs (0,1,er) w):=by
 have hbt:=get_bt s
 have hne:=not_empty s (by omega)
 have e1:((s.size:Int) == 1)=false:=by rw [beq_eq_false_iff_ne];omega
 have x2:(bt s 1 == 39)=false:=by rw [beq_eq_false_iff_ne];exact h2
 have hcall:∀ W,Calls Tryz.prog 226 #[.string s,.int .i64 1] W (SayOut c b k er W):=fun W=>by
  have:=say_any s 1 W (by omega)
  rw [hN] at this
  exact this
 have HCALL:=hide_ hcall
 clear hcall hN h2
 have x3:(er != 0)=true:=bne_iff_ne.2 he
 clear he
 go_enter Tryz.func220,Tryz.ntmps220
 go_wp2_with (go_at_call 226;refine (HCALL.out _).mono ?_;rintro e w' ⟨rfl,hbel⟩)
 go_ret3
 exact ⟨rfl,hbel.alloc hbel.size _⟩
set_option maxHeartbeats 1000000 in
theorem trune_5 (s:ByteArray) (w:World) (hz:s.size≤1152921504606846976) (h0:1<s.size) (h1:bt s 0=39) (h2:bt s 1≠39) (c:Int) (b:Bool) (k:Nat) (er:Int) (hN:sayN s 1=(c,b,k,er)) (hk:k≤6) (he:er=0) (h5:s.size≤1+k) :
  Calls Tryz.prog 220 #[.string s] w (RuneIs (0,1+(k:Int),11) w):=by
 have hbt:=get_bt s
 subst he
 have hne:=not_empty s (by omega)
 have e1:((s.size:Int) == 1)=false:=by rw [beq_eq_false_iff_ne];omega
 have x2:(bt s 1 == 39)=false:=by rw [beq_eq_false_iff_ne];exact h2
 have hcall:∀ W,Calls Tryz.prog 226 #[.string s,.int .i64 1] W (SayOut c b k 0 W):=fun W=>by
  have:=say_any s 1 W (by omega)
  rw [hN] at this
  exact this
 have HCALL:=hide_ hcall
 clear hcall hN h2
 go_enter Tryz.func220,Tryz.ntmps220
 go_wp2_with (go_at_call 226;refine (HCALL.out _).mono ?_;rintro e w' ⟨rfl,hbel⟩)
 go_ret3
 exact ⟨rfl,hbel.alloc hbel.size _⟩
set_option maxHeartbeats 1000000 in
theorem trune_6 (s:ByteArray) (w:World) (hz:s.size≤1152921504606846976) (h0:1<s.size) (h1:bt s 0=39) (h2:bt s 1≠39) (c:Int) (b:Bool) (k:Nat) (er:Int) (hN:sayN s 1=(c,b,k,er)) (hk:k≤6) (he:er=0) (h5:1+k<s.size) (h6:bt s (1+k)≠39) :
  Calls Tryz.prog 220 #[.string s] w (RuneIs (0,1+(k:Int),11) w):=by
 have hbt:=get_bt s
 subst he
 have hne:=not_empty s (by omega)
 have e1:((s.size:Int) == 1)=false:=by rw [beq_eq_false_iff_ne];omega
 have x2:(bt s 1 == 39)=false:=by rw [beq_eq_false_iff_ne];exact h2
 have hcall:∀ W,Calls Tryz.prog 226 #[.string s,.int .i64 1] W (SayOut c b k 0 W):=fun W=>by
  have:=say_any s 1 W (by omega)
  rw [hN] at this
  exact this
 have HCALL:=hide_ hcall
 clear hcall hN h2
 have y1:((1:Int)+(k:Int)).toNat=1+k:=by omega
 have y2:(bt s (1+k) != 39)=true:=bne_iff_ne.2 h6
 clear h6
 go_enter Tryz.func220,Tryz.ntmps220
 go_wp2_with (go_at_call 226;refine (HCALL.out _).mono ?_;rintro e w' ⟨rfl,hbel⟩)
 go_ret3
 exact ⟨rfl,hbel.alloc hbel.size _⟩
set_option maxHeartbeats 1000000 in
theorem trune_7 (s:ByteArray) (w:World) (hz:s.size≤1152921504606846976) (h0:1<s.size) (h1:bt s 0=39) (h2:bt s 1≠39) (c:Int) (b:Bool) (k:Nat) (er:Int) (hN:sayN s 1=(c,b,k,er)) (hk:k≤6) (he:er=0) (h5:2+k<s.size) (h6:bt s (1+k)=39) :
  Calls Tryz.prog 220 #[.string s] w (RuneIs (0,1+(k:Int)+1,10) w):=by
 have hbt:=get_bt s
 subst he
 have hne:=not_empty s (by omega)
 have e1:((s.size:Int) == 1)=false:=by rw [beq_eq_false_iff_ne];omega
 have x2:(bt s 1 == 39)=false:=by rw [beq_eq_false_iff_ne];exact h2
 have hcall:∀ W,Calls Tryz.prog 226 #[.string s,.int .i64 1] W (SayOut c b k 0 W):=fun W=>by
  have:=say_any s 1 W (by omega)
  rw [hN] at this
  exact this
 have HCALL:=hide_ hcall
 clear hcall hN h2
 have y1:((1:Int)+(k:Int)).toNat=1+k:=by omega
 go_enter Tryz.func220,Tryz.ntmps220
 go_wp2_with (go_at_call 226;refine (HCALL.out _).mono ?_;rintro e w' ⟨rfl,hbel⟩)
 go_ret3
 exact ⟨rfl,hbel.alloc hbel.size _⟩
set_option maxHeartbeats 1000000 in
theorem trune_8 (s:ByteArray) (w:World) (hz:s.size≤1152921504606846976) (h0:1<s.size) (h1:bt s 0=39) (h2:bt s 1≠39) (c:Int) (b:Bool) (k:Nat) (er:Int) (hN:sayN s 1=(c,b,k,er)) (hk:k≤6) (he:er=0) (h5:2+k=s.size) (h6:bt s (1+k)=39) :
  Calls Tryz.prog 220 #[.string s] w (RuneIs (c,0,0) w):=by
 have hbt:=get_bt s
 subst he
 have hne:=not_empty s (by omega)
 have e1:((s.size:Int) == 1)=false:=by rw [beq_eq_false_iff_ne];omega
 have x2:(bt s 1 == 39)=false:=by rw [beq_eq_false_iff_ne];exact h2
 have hcall:∀ W,Calls Tryz.prog 226 #[.string s,.int .i64 1] W (SayOut c b k 0 W):=fun W=>by
  have:=say_any s 1 W (by omega)
  rw [hN] at this
  exact this
 have HCALL:=hide_ hcall
 clear hcall hN h2
 have y1:((1:Int)+(k:Int)).toNat=1+k:=by omega
 go_enter Tryz.func220,Tryz.ntmps220
 go_wp2_with (go_at_call 226;refine (HCALL.out _).mono ?_;rintro e w' ⟨rfl,hbel⟩)
 go_ret3
 exact ⟨rfl,hbel.alloc hbel.size _⟩
theorem trune_any (s:ByteArray) (w:World) (hz:s.size≤1152921504606846976) :
  Calls Tryz.prog 220 #[.string s] w (RuneIs (runeN s) w):=by
 unfold runeN
 by_cases h0:s.size=0
 ·obtain rfl:=is_empty s h0
  rw [if_pos h0]
  exact trune_0 w
 rw [if_neg h0]
 have hb0:=bt_eq s 0 (by omega)
 by_cases h1:bn s 0≠39
 ·rw [if_pos h1]
  exact trune_1 s w (by omega) (by omega)
 rw [if_neg h1]
 by_cases h2:s.size=1
 ·rw [if_pos h2]
  exact trune_2 s w h2 (by omega)
 rw [if_neg h2]
 have hb1:=bt_eq s 1 (by omega)
 by_cases h3:bn s 1=39
 ·rw [if_pos h3]
  exact trune_3 s w (by omega) (by omega) (by omega)
 rw [if_neg h3]
 have hk:=sayN_k s 1
 obtain ⟨⟨c,b,k,er⟩,hN⟩:∃ x,sayN s 1=x:=⟨_,rfl⟩
 rw [hN] at hk ⊢
 simp only at hk ⊢
 by_cases h4:er≠0
 ·rw [if_pos h4]
  exact trune_4 s w hz (by omega) (by omega) (by omega) c b k er hN hk h4
 rw [if_neg h4]
 by_cases h5:s.size≤1+k
 ·rw [if_pos h5]
  exact trune_5 s w hz (by omega) (by omega) (by omega) c b k er hN hk (by omega) h5
 rw [if_neg h5]
 have hb2:=bt_eq s (1+k) (by omega)
 by_cases h6:bn s (1+k)≠39
 ·rw [if_pos h6]
  exact trune_6 s w hz (by omega) (by omega) (by omega) c b k er hN hk (by omega) (by omega) (by omega)
 rw [if_neg h6]
 by_cases h7:2+k<s.size
 ·rw [if_pos h7]
  have:=trune_7 s w hz (by omega) (by omega) (by omega) c b k er hN hk (by omega) h7 (by omega)
  rw [show (1:Int)+(k:Int)+1=2+(k:Int) by omega] at this
  exact this
 ·rw [if_neg h7]
  exact trune_8 s w hz (by omega) (by omega) (by omega) c b k er hN hk (by omega) (by omega) (by omega)
end Go.Proofs.YtikbegmodacopaaGreatDoor
namespace Go.Proofs.YtikbegmodacopaaGreatDoor
open Go.RowKit
theorem Tryz.info_u8:(Tryz.prog.info? 5).map (fun i=>(i.zero,i.size,i.bytes))=some (some (.int .u8 0),1,1):=by kernel_rfl
abbrev u8s (xs:List Int):List Value:=xs.map (Value.int .u8)
theorem u8s_app (xs ys:List Int):u8s (xs ++ ys)=u8s xs ++ u8s ys:=List.map_append
theorem beq_get (xs ys:List Int) (k:Nat) (hk:k<xs.length) (hk':k<ys.length) (h:xs.take k=ys.take k) :
  (xs.take (k+1)=ys.take (k+1) ↔ xs[k]?.getD 0=ys[k]?.getD 0):=by
 have e1:xs.take (k+1)=xs.take k ++ [xs[k]?.getD 0]:=by rw [List.take_add_one,List.getElem?_eq_getElem hk];rfl
 have e2:ys.take (k+1)=ys.take k ++ [ys[k]?.getD 0]:=by rw [List.take_add_one,List.getElem?_eq_getElem hk'];rfl
 rw [e1,e2,h]
 simp
set_option maxHeartbeats 400000 in
theorem SameBytes_any (A A':Option Addr) (n c n' c':Nat) (xs ys:List Int) (B:Nat) (w:World) (ha:Reads w B 1 A n (u8s xs)) (hb:Reads w B 1 A' n' (u8s ys)) (hn:n≤maxLen) (hn':n'≤maxLen) :
  Calls Tryz.prog 51 #[.slice A n c,.slice A' n' c'] w fun e w'=>e=.returned (.bool (decide (xs=ys)))∧∃ nq,w'=w.drewN nq:=by
 unfold maxLen at hn hn'
 have la:xs.length=n:=by simpa using ha.1
 have lb:ys.length=n':=by simpa using hb.1
 by_cases hne:n=n'
 ·subst hne
  have h0:((n:Int) != (n:Int))=false:=by simp
  go_enter Tryz.func51,Tryz.ntmps51
  go_wp2
  go_loopw [5] (fun i wr=>∃ k:Nat,k≤n∧i=.int .i64 k∧xs.take k=ys.take k∧∃ nq,wr=w.drewN nq) (fun i _=>n - (intOf i).toNat)
  case atStart=>exact ⟨0,Nat.zero_le _,rfl,by simp,0,rfl⟩
  case round =>
   obtain ⟨k,hk,rfl,heq,nq,rfl⟩:=hrel
   by_cases hlt:k<n
   ·obtain ⟨ad,u,rfl,_,hx,hc⟩:=ha.at_ hlt
    obtain ⟨ad',u',rfl,_,hx',hc'⟩:=hb.at_ hlt
    have hu:u=.int .u8 (xs[k]?.getD 0):=by
     rw [List.getElem?_map,List.getElem?_eq_getElem (by omega)] at hx
     rw [List.getElem?_eq_getElem (by omega)]
     simpa using hx.symm
    have hu':u'=.int .u8 (ys[k]?.getD 0):=by
     rw [List.getElem?_map,List.getElem?_eq_getElem (by omega)] at hx'
     rw [List.getElem?_eq_getElem (by omega)]
     simpa using hx'.symm
    subst hu hu'
    have H:=hide_ (beq_get xs ys k (by omega) (by omega) heq)
    have HE:=hide_ heq
    clear hx hx' heq ha hb
    have HL:=hide_ (show xs.length=n∧ys.length=n from ⟨la,lb⟩)
    clear la lb
    go_wp2
    go_quiet (fail)
    go_wp2
    ·have hd:(xs[k]?.getD 0 != ys[k]?.getD 0)=true:=by assumption
     go_ret
     refine ⟨?_,_,World.drewN_drewN _ _ _⟩
     have:xs≠ys:=by rintro rfl;simp at hd
     simp [this]
    ·have hd:(xs[k]?.getD 0 != ys[k]?.getD 0)=false:=by assumption
     go_roundw
     case rel=>exact ⟨k+1,by omega,by go_num,H.out.2 (by simpa using hd),_,rfl⟩
     case measure=>simp [intOf];omega
   ·obtain rfl:k=n:=by omega
    go_wp2
    go_ret
    exact ⟨by rw [List.take_of_length_le (by omega),List.take_of_length_le (by omega)] at heq;simp [heq],nq,rfl⟩
 ·have h0:((n:Int) != (n':Int))=true:=by simp;omega
  go_enter Tryz.func51,Tryz.ntmps51
  go_wp2
  go_ret
  refine ⟨?_,0,rfl⟩
  have:xs≠ys:=by rintro rfl;omega
  simp [this]
theorem mark_ex (k i:Int):∃ m:Int,∀ w,Calls Tryz.prog 49 #[.int .i64 k,.int .i64 i] w fun e w'=>e=.returned (.int .u8 (m % 4294967296 / 16777216))∧w=w':=by
 apply Exists.intro
 intro w
 go_enter Tryz.func49,Tryz.ntmps49
 go_wp2
 go_ret
 exact ⟨rfl,rfl⟩
noncomputable def mk8 (k i:Int):Int:=Classical.choose (mark_ex k i) % 4294967296 / 16777216
theorem markBytes_any (k i:Int) (w:World):Calls Tryz.prog 49 #[.int .i64 k,.int .i64 i] w fun e w'=>e=.returned (.int .u8 (mk8 k i))∧w=w':=Classical.choose_spec (mark_ex k i) w
noncomputable def marks8 (k:Int) (from_ n:Nat):List Int:=(List.range n).map fun i=>mk8 k (from_+i:Nat)
theorem marks8_succ (k:Int) (f n:Nat):marks8 k f (n+1)=marks8 k f n ++ [mk8 k (f+n:Nat)]:=by simp [marks8,List.range_succ]
theorem marks8_succ0 (k:Int) (n:Nat):marks8 k 0 (n+1)=marks8 k 0 n ++ [mk8 k n]:=by simp [marks8,List.range_succ]
theorem marks8_len (k:Int) (f n:Nat):(marks8 k f n).length=n:=by simp [marks8]
set_option maxHeartbeats 1000000 in
set_option maxRecDepth 100000 in
theorem LentBytes_any (A:Option Addr) (n c:Nat) (xs:List Int) (B:Nat) (w:World) (ha:Reads w B 1 A n (u8s xs)) (hB:B≤w.heap.size) (hn:n≤140737488351232) :
  Calls Tryz.prog 27 #[.slice A n c] w fun e w'=>∃ v,e=.returned v∧w'.ownsRow w.heap.size 5 1 v (n+64) (u8s (xs ++ marks8 0 0 64))∧Below w.heap.size w w':=by
 obtain ⟨i0,hi0,hz0,hz1,hz2⟩:=info_parts Tryz.info_u8
 have la:xs.length=n:=by simpa using ha.1
 go_enter Tryz.func27,Tryz.ntmps27
 go_wp2
 go_loopw [3,4] (fun v i wr=>∃ k:Nat,k≤n∧i=.int .i64 k∧Owns wr w.heap.size [⟨5,1,v,k,u8s (xs.take k)⟩]∧Below w.heap.size w wr) (fun _ i _=>n - (intOf i).toNat)
 case atStart=>exact ⟨0,Nat.zero_le _,rfl,⟨fun r hr=>by rw [List.mem_singleton.1 hr];exact World.ownsRow_nil _ _ _ _,List.pairwise_singleton _ _⟩,Below.refl _ _⟩
 case round =>
  obtain ⟨k,hk,rfl,hO,hb⟩:=hrel
  by_cases hlt:k<n
  ·obtain ⟨ad,u,rfl,_,hx,hc⟩:=(ha.below (hb.mono hB)).at_ hlt
   have hu:=get_map (Value.int .u8) xs 0 k (by omega) hx
   subst hu
   have HL:=hide_ la
   clear hx la
   go_wp2_with (at_builtin;go_must (refine wpList_append_owns _ rfl (.tmp 12) (.tmp 17) 24 rfl w.heap.size _ 0 5 1 _ k _ rfl (hO.alloc _) (by have:=hb.size;simp;omega) i0 _ 1 Tryz.underlying24 hi0 hz0 hz1 hz2 rfl (by omega) rfl _ _ 1 1 _ rfl (reads_new wr 5 1 1 [.int .u8 (xs[k]?.getD 0)] rfl) (by simp [Value.oneCell']) (by simp only [maxLen];omega) (by omega) ?_);intro v' w1 hO1 hb1 hsz1)
   go_roundw
   case rel=>exact ⟨k+1,by omega,by go_num,by rw [take_snoc xs 0 k (by rw [HL.out];exact hlt),u8s_app];exact hO1,hb.trans ((Below.alloc (Below.refl _ _) hb.size _).trans hb1)⟩
   case measure=>simp [intOf];omega
  ·obtain rfl:k=n:=by omega
   have hO0:Owns wr w.heap.size [⟨5,1,u3,k+0,u8s (xs ++ marks8 0 0 0)⟩]:=by simpa [marks8,List.take_of_length_le (Nat.le_of_eq la)] using hO
   have HL:=hide_ la
   clear la hO
   obtain ⟨w1,hw1⟩:∃ w1,w1=wr:=⟨_,rfl⟩
   subst hw1
   go_wp2
   go_loopw [3,5] (fun v i wr=>∃ j:Nat,j≤64∧i=.int .i64 j∧Owns wr w.heap.size [⟨5,1,v,k+j,u8s (xs ++ marks8 0 0 j)⟩]∧Below w.heap.size w wr) (fun _ i _=>64 - (intOf i).toNat)
   case atStart=>exact ⟨0,by omega,rfl,hO0,hb⟩
   case round =>
    clear hb hO0
    obtain ⟨j,hj,rfl,hO,hb⟩:=hrel
    by_cases hlt:j<64
    ·go_wp2_with (first | (go_at_call 49;refine (markBytes_any _ _ _).mono ?_;rintro e w' ⟨rfl,rfl⟩) | (at_builtin;go_must (refine wpList_append_owns _ rfl (.tmp 23) (.tmp 26) 24 rfl w.heap.size _ 0 5 1 _ (k+j) _ rfl (hO.alloc _) (by have:=hb.size;simp;omega) i0 _ 1 Tryz.underlying24 hi0 hz0 hz1 hz2 rfl (by omega) rfl _ _ 1 1 _ rfl (reads_new wr 5 1 1 [.int .u8 (mk8 0 j)] rfl) (by simp [Value.oneCell']) (by simp only [maxLen];omega) (by omega) ?_);intro v' w1 hO1 hb1 hsz1))
     go_roundw
     case rel=>exact ⟨j+1,by omega,by go_num,by rw [marks8_succ];simpa [Nat.add_assoc] using hO1,hb.trans ((Below.alloc (Below.refl _ _) hb.size _).trans hb1)⟩
     case measure=>simp [intOf];omega
    ·obtain rfl:j=64:=by omega
     go_wp2
     go_ret
     exact ⟨_,rfl,hO.at_ (i:=0) rfl,hb⟩
theorem markBytes_q (k i:Int) (w:World):Calls Tryz.prog 49 #[.int .i64 k,.int .i64 i] w fun e w'=>e=.returned (.int .u8 (mk8 k i))∧w'=w:=(markBytes_any k i w).mono fun _ _ ⟨h1,h2⟩=>⟨h1,h2.symm⟩
theorem kept_at (xs ys ms:List Int) (j:Nat) (hx:ys.length+j<xs.length) (m:Int) (h:xs.take (ys.length+j)=ys ++ ms) :
  (xs.take (ys.length+j+1)=ys ++ (ms ++ [m]) ↔ xs[ys.length+j]?.getD 0=m):=by
 rw [take_snoc xs 0 _ hx,h,List.append_assoc]
 simp
set_option maxHeartbeats 1000000 in
set_option maxRecDepth 100000 in
theorem KeptBytes_any (A A':Option Addr) (n c n' c':Nat) (xs ys:List Int) (B:Nat) (w:World) (ha:Reads w B 1 A n (u8s xs)) (hb:Reads w B 1 A' n' (u8s ys)) (hn:n≤maxLen) (hn':n' + 64≤maxLen) :
  Calls Tryz.prog 14 #[.slice A n c,.slice A' n' c'] w fun e w'=>e=.returned (.bool (decide (xs=ys ++ marks8 0 0 64)))∧∃ nq,w'=w.drewN nq:=by
 unfold maxLen at hn hn'
 have la:xs.length=n:=by simpa using ha.1
 have lb:ys.length=n':=by simpa using hb.1
 by_cases hne:n=n' + 64
 ·subst hne
  have h0:(((n':Int)+64) != ((n':Int)+64))=false:=by simp
  go_enter Tryz.func14,Tryz.ntmps14
  go_wp2
  go_loopw [5] (fun i wr=>∃ k:Nat,k≤n'∧i=.int .i64 k∧xs.take k=ys.take k∧∃ nq,wr=w.drewN nq) (fun i _=>n' - (intOf i).toNat)
  case atStart=>exact ⟨0,Nat.zero_le _,rfl,by simp,0,rfl⟩
  case round =>
   obtain ⟨k,hk,rfl,heq,nq,rfl⟩:=hrel
   by_cases hlt:k<n'
   ·obtain ⟨ad,u,rfl,_,hx,hc⟩:=ha.at_ (show k<n' + 64 by omega)
    obtain ⟨ad',u',rfl,_,hx',hc'⟩:=hb.at_ hlt
    have hu:=get_map (Value.int .u8) xs 0 k (by omega) hx
    have hu':=get_map (Value.int .u8) ys 0 k (by omega) hx'
    subst hu hu'
    have H:=hide_ (beq_get xs ys k (by omega) (by omega) heq)
    have HL:=hide_ (show xs.length=n' + 64∧ys.length=n' from ⟨la,lb⟩)
    clear hx hx' heq ha hb la lb
    go_wp2
    go_quiet (fail)
    go_wp2
    ·have hd:(xs[k]?.getD 0 != ys[k]?.getD 0)=true:=by assumption
     go_ret
     refine ⟨?_,_,World.drewN_drewN _ _ _⟩
     have:xs≠ys ++ marks8 0 0 64:=by
      intro he
      apply (bne_iff_ne.1 hd)
      rw [he,List.getElem?_append_left (by rw [HL.out.2];exact hlt)]
     simp [this]
    ·have hd:(xs[k]?.getD 0 != ys[k]?.getD 0)=false:=by assumption
     go_roundw
     case rel=>exact ⟨k+1,by omega,by go_num,H.out.2 (by simpa using hd),_,rfl⟩
     case measure=>simp [intOf];omega
   ·obtain rfl:k=n':=by omega
    have H0:=hide_ (show xs.take (ys.length+0)=ys ++ marks8 0 0 0 by simpa [marks8,lb] using heq.trans (List.take_of_length_le (by omega)))
    have HL:=hide_ (show xs.length=k+64∧ys.length=k from ⟨la,lb⟩)
    clear heq la lb
    go_wp2
    go_loopw [6] (fun i wr=>∃ j:Nat,j≤64∧i=.int .i64 j∧Hid (xs.take (ys.length+j)=ys ++ marks8 0 0 j)∧∃ nq,wr=w.drewN nq) (fun i _=>64 - (intOf i).toNat)
    case atStart=>exact ⟨0,by omega,rfl,H0,_,rfl⟩
    case round =>
     clear H0
     obtain ⟨j,hj,rfl,heq,nq,hwr⟩:=hrel
     have ha:=(show Reads wr B 1 A (k+64) (u8s xs) from hwr ▸ ha.drewN nq)
     have HW:=hide_ hwr
     clear hwr
     by_cases hlt:j<64
     ·obtain ⟨ad,u,rfl,_,hx,hc⟩:=ha.at_ (show k+j<k+64 by omega)
      have hu:=get_map (Value.int .u8) xs 0 (k+j) (by rw [HL.out.1];omega) hx
      subst hu
      have H:=hide_ (kept_at xs ys _ j (by rw [HL.out.1,HL.out.2];omega) (mk8 0 j) heq.out)
      clear hx heq ha hb
      have s1:IntKind.i64.wrap ((k:Int)+(j:Int))=(k:Int)+(j:Int):=IntWalk.i64_in _ (by omega)
      have s2:(0:Int)≤(k:Int)+(j:Int):=by omega
      have s3:((k:Int)+(j:Int)).toNat=k+j:=by omega
      have s4:(k:Int)+(j:Int)<(k:Int)+64:=by omega
      go_wp2
      go_quiet ((go_at_call 49;exact Calls.quiet_of_same (markBytes_q _ _ _)))
      go_wp2
      ·have hd:(xs[k+j]?.getD 0 != mk8 0 j)=true:=by assumption
       go_ret
       refine ⟨?_,_,by rw [HW.out];exact World.drewN_drewN _ _ _⟩
       have:xs≠ys ++ marks8 0 0 64:=by
        intro he
        apply (bne_iff_ne.1 hd)
        rw [he,List.getElem?_append_right (by rw [HL.out.2];omega),HL.out.2]
        simp [marks8,hlt]
       simp [this]
      ·have hd:(xs[k+j]?.getD 0 != mk8 0 j)=false:=by assumption
       go_roundw
       case rel=>exact ⟨j+1,by omega,by go_num,by rw [marks8_succ0];exact H.out.2 (by rw [HL.out.2];simpa using hd),_,by rw [HW.out];exact World.drewN_drewN _ _ _⟩
       case measure=>simp [intOf];omega
     ·obtain rfl:j=64:=by omega
      go_wp2
      go_ret
      refine ⟨?_,_,HW.out⟩
      have:=heq.out
      rw [List.take_of_length_le (by rw [HL.out.1,HL.out.2];omega)] at this
      simp [this]
 ·have h0:((n:Int) != ((n':Int)+64))=true:=by simp;omega
  go_enter Tryz.func14,Tryz.ntmps14
  go_wp2
  go_ret
  refine ⟨?_,0,rfl⟩
  have:xs≠ys ++ marks8 0 0 64:=by
   rintro rfl
   rw [List.length_append,marks8_len] at la
   omega
  simp [this]
end Go.Proofs.YtikbegmodacopaaGreatDoor
namespace Go.Proofs.YtikbegmodacopaaGreatDoor
open Go.RowKit Go.PlainAid Go.Shelf
theorem bld_u8:(Tryz.prog.info? 5).map (fun i=>(i.zero,i.size,i.bytes))=some (some (.int .u8 0),1,1):=by kernel_rfl
theorem bld_size:(Tryz.prog.info? 96).map (·.size)=some 2:=by kernel_rfl
theorem bld_lies:liesAt Tryz.prog Tryz.prog.depth 96 (2 / Tryz.prog.cellsOf 96) 0 96 1=true:=by kernel_rfl
set_option maxHeartbeats 1000000 in
set_option maxRecDepth 100000 in
theorem bld_used (b:Nat) (w:World) (h0:w.cell? ⟨b,0,none⟩=some (.pointer (some ⟨b,0,none⟩))) :
  Calls Tryz.prog 96 #[.pointer (some ⟨b,0,none⟩)] w fun e w'=>e=.returned (.tuple #[])∧w'=w:=by
 obtain ⟨j,hj,_⟩:=Option.map_eq_some_iff.1 bld_size
 go_enter Tryz.func96,Tryz.ntmps96
 go_wp2
 rw [Lib.run_neq_ptr_same w _ Tryz.underlying94 hj]
 go_wp2
 go_end0
 exact ⟨rfl,rfl⟩
set_option maxHeartbeats 1000000 in
set_option maxRecDepth 100000 in
theorem bld_fresh (b:Nat) (w:World) (h0:w.cell? ⟨b,0,none⟩=some (.pointer none)) (hsh:w.shape? b=some (96,2)) (hfz:w.frozen? ⟨b,0,none⟩=false) :
  Calls Tryz.prog 96 #[.pointer (some ⟨b,0,none⟩)] w fun e w'=>e=.returned (.tuple #[])∧w'=w.setCell ⟨b,0,none⟩ (.pointer (some ⟨b,0,none⟩)):=by
 obtain ⟨j,hj,hjs⟩:=Option.map_eq_some_iff.1 bld_size
 go_enter Tryz.func96,Tryz.ntmps96
 go_wp2
 rw [Lib.run_to_unsafe w ⟨b,0,none⟩ Tryz.underlying94 Tryz.underlying162 hj (by rw [hjs];decide) hsh (Nat.zero_lt_succ 1)]
 simp only [Result.andThen]
 rw [Oper.upon_value]
 go_wp2
 rw [run_callFunc_extern Tryz.func129 (by kernel_rfl) (by kernel_rfl) (by kernel_rfl) (e:=Extern.AbiNoEscape.same) (by kernel_rfl)]
 rw [Lib.run_noEscape]
 simp only [Result.andThen]
 rw [Oper.upon_value]
 go_wp2
 rw [Lib.run_from_unsafe w ⟨b,0,none⟩ Tryz.underlying162 Tryz.underlying94 hj hsh bld_lies]
 simp only [Result.andThen]
 rw [Oper.upon_value]
 go_wp2
 go_end0
 exact ⟨rfl,rfl⟩
theorem bld_check (B b:Nat) (bs:List Value) (w:World) (h:Lib.IsBuilderF 96 5 B b bs w) :
  Calls Tryz.prog 96 #[.pointer (some ⟨b,0,none⟩)] w fun e w'=>e=.returned (.tuple #[])∧(Lib.BuilderAtF 96 5 B b (.pointer (some ⟨b,0,none⟩)) bs w'∧Below B w w'∧Lib.OthersKept 5 (some b) w w'):=by
 rcases h with h | h
 ·refine (bld_fresh b w h.cell0 h.shape h.frozen0).mono ?_
  rintro e w' ⟨rfl,rfl⟩
  exact ⟨rfl,h.used _,(Below.refl B w).setCell (p:=⟨b,0,none⟩) h.1 _,(Lib.OthersKept.refl _ _ w).setCell ⟨b,0,none⟩ rfl _⟩
 ·refine (bld_used b w h.cell0).mono ?_
  rintro e w' ⟨rfl,rfl⟩
  exact ⟨rfl,h,Below.refl B _,Lib.OthersKept.refl _ _ _⟩
set_option maxHeartbeats 2000000 in
set_option maxRecDepth 100000 in
theorem bld_byte (B b:Nat) (bs:List Value) (c:Int) (w:World) (h:Lib.IsBuilderF 96 5 B b bs w) (hlen:bs.length+1≤140737488355328) (hBw:B≤w.heap.size) :
  Calls Tryz.prog 156 #[.pointer (some ⟨b,0,none⟩),.int .u8 c] w fun e w'=>e=.returned .nilIface∧(Lib.BuilderAtF 96 5 B b (.pointer (some ⟨b,0,none⟩)) (bs ++ [.int .u8 c]) w'∧Below B w w'∧Lib.OthersKept 5 (some b) w w'):=by
 obtain ⟨i0,hi,hz0,hz1,hz2⟩:=info_parts bld_u8
 go_enter Tryz.func156,Tryz.ntmps156
 go_wp2_with (go_at_call 96;refine (bld_check B b bs _ h).mono ?_)
 rintro e w1 ⟨rfl,h1,hb1,hk1⟩
 obtain ⟨hB,v,hbk,hown,hne⟩:=h1
 have c0:w1.cell? ⟨b,0,none⟩=some (.pointer (some ⟨b,0,none⟩)):=by rw [Lib.cell_of_heap hbk];rfl
 have c1:w1.cell? ⟨b,1,none⟩=some v:=by rw [Lib.cell_of_heap hbk];rfl
 go_wp2_with (at_builtin;refine wpList_append_ownF _ rfl _ _ 24 rfl B 5 i0 (.int .u8 0) 1 1 Tryz.underlying24 hi hz0 hz1 hz2 rfl (by decide) _ _ _ rfl (hown.alloc _) ⟨w1.heap.size,0,none⟩ 1 1 [.int .u8 c] rfl rfl ?c1 ?c2 ?c3 ?c4 ?c5 ?_)
 case c1 =>
  intro j u hj
  match j,hj with
  | 0,hj=>simp at hj;subst hj;simp [Addr.add]
 case c2=>intro u hu;simp at hu;subst hu;rfl
 case c3=>unfold maxLen;omega
 case c4=>omega
 case c5=>have:=hb1.size;simp;omega
 intro v' w2 hown' hgrow _
 have hlt:b<w1.heap.size:=by
  rcases Nat.lt_or_ge b w1.heap.size with h' | h'
  ·exact h'
  ·simp [Array.getElem?_eq_none h'] at hbk
 have hb2:w2.heap[b]?=some (.cells #[.pointer (some ⟨b,0,none⟩),v] 96 (0,0)):=by
  rw [hgrow.block b (by simp;omega) (fun e=>hne e.symm),Lib.alloc_old w1 _ b hlt]
  exact hbk
 have d0:w2.cell? ⟨b,0,none⟩=some (.pointer (some ⟨b,0,none⟩)):=by rw [Lib.cell_of_heap hb2];rfl
 have d1:w2.cell? ⟨b,1,none⟩=some v:=by rw [Lib.cell_of_heap hb2];rfl
 have f1:w2.frozen? ⟨b,1,none⟩=false:=Lib.frozen_of_heap hb2 1
 obtain ⟨g,cap,rfl⟩:∃ g cap,v'=.slice (some ⟨g,0,none⟩) (bs.length+1) cap:=by
  rcases hown'.2 with ⟨_,h0⟩ | ⟨g,cap,cur,fz,hv,_⟩
  ·omega
  ·exact ⟨g,cap,hv⟩
 go_wp2
 go_ret
 refine ⟨rfl,?_,?_,((hk1.alloc _).grown hgrow (Lib.ownsRowF_kind (hown.alloc _))).setCell ⟨b,1,none⟩ rfl _⟩
 ·exact Lib.BuilderAtF.put (T:=96) (e:=5) hB hb2 (bs':=bs ++ [.int .u8 c]) (by simpa using hown') (by decide)
 ·exact ((hb1.alloc (by have:=hb1.size;omega) _).grown hgrow (by have:=hb1.size;simp;omega) (fun k hk=>(hown.lt k hk).1)).setCell (p:=⟨b,1,none⟩) hB _
set_option maxHeartbeats 2000000 in
set_option maxRecDepth 100000 in
theorem bld_string (B b:Nat) (bs:List Value) (s:ByteArray) (w:World) (h:Lib.IsBuilderF 96 5 B b bs w) (hlen:bs.length+s.size≤140737488355328) (hBw:B≤w.heap.size) :
  Calls Tryz.prog 57 #[.pointer (some ⟨b,0,none⟩),.string s] w fun e w'=>e=.returned (.tuple #[.int .i64 s.size,.nilIface])∧(Lib.BuilderAtF 96 5 B b (.pointer (some ⟨b,0,none⟩)) (bs ++ Lib.strCells s) w'∧Below B w w'∧Lib.OthersKept 5 (some b) w w'):=by
 obtain ⟨i0,hi,hz0,hz1,hz2⟩:=info_parts bld_u8
 go_enter Tryz.func57,Tryz.ntmps57
 go_wp2_with (go_at_call 96;refine (bld_check B b bs _ h).mono ?_)
 rintro e w1 ⟨rfl,h1,hb1,hk1⟩
 obtain ⟨hB,v,hbk,hown,hne⟩:=h1
 have c0:w1.cell? ⟨b,0,none⟩=some (.pointer (some ⟨b,0,none⟩)):=by rw [Lib.cell_of_heap hbk];rfl
 have c1:w1.cell? ⟨b,1,none⟩=some v:=by rw [Lib.cell_of_heap hbk];rfl
 go_wp2_with (at_builtin;refine Lib.wpList_append_own_stringF _ rfl _ _ 24 9 rfl B 5 i0 Tryz.underlying24 Tryz.underlying9 hi hz0 hz1 hz2 _ _ _ rfl hown s rfl ?c3 ?c4 ?c5 ?_)
 case c3=>unfold maxLen;omega
 case c4=>omega
 case c5=>have:=hb1.size;omega
 intro v' w2 hown' hgrow _
 have hlt:b<w1.heap.size:=by
  rcases Nat.lt_or_ge b w1.heap.size with h' | h'
  ·exact h'
  ·simp [Array.getElem?_eq_none h'] at hbk
 have hb2:w2.heap[b]?=some (.cells #[.pointer (some ⟨b,0,none⟩),v] 96 (0,0)):=by
  rw [hgrow.block b hlt (fun e=>hne e.symm)]
  exact hbk
 have d0:w2.cell? ⟨b,0,none⟩=some (.pointer (some ⟨b,0,none⟩)):=by rw [Lib.cell_of_heap hb2];rfl
 have d1:w2.cell? ⟨b,1,none⟩=some v:=by rw [Lib.cell_of_heap hb2];rfl
 have f1:w2.frozen? ⟨b,1,none⟩=false:=Lib.frozen_of_heap hb2 1
 obtain ⟨ao,n',cap,rfl⟩:∃ ao n' cap,v'=.slice ao n' cap:=by
  rcases hown'.2 with ⟨hv,_⟩ | ⟨g,cap,cur,fz,hv,_⟩
  ·exact ⟨_,_,_,hv⟩
  ·exact ⟨_,_,_,hv⟩
 go_wp2
 go_ret2
 refine ⟨rfl,?_,?_,(hk1.grown hgrow (Lib.ownsRowF_kind hown)).setCell ⟨b,1,none⟩ rfl _⟩
 ·exact Lib.BuilderAtF.put (T:=96) (e:=5) hB hb2 (bs':=bs ++ Lib.strCells s) (by simpa [Lib.strCells_length] using hown') (by decide)
 ·exact (hb1.grown hgrow (by have:=hb1.size;omega) (fun k hk=>(hown.lt k hk).1)).setCell (p:=⟨b,1,none⟩) hB _
end Go.Proofs.YtikbegmodacopaaGreatDoor
