/-
  Joined and packed by program.
-/
import Derived.Test.YtikbegmodacopaaGreatDoorB25
import Derived.Test.YtikbegmodacopaaGreatDoorB13
import Derived.Test.YtikbegmodacopaaGreatDoorB24
import Derived.Test.YtikbegmodacopaaGreatDoorB04
import Derived.Test.YtikbegmodacopaaGreatDoorB03
import Derived.Lib.FrozenHead
import Derived.Lib.OthersKept
namespace Go.Proofs.YtikbegmodacopaaGreatDoor
open Go.RowKit Go.PlainAid Go.Shelf Go.BigFrame
set_option linter.unusedSimpArgs false
set_option linter.unusedVariables false
set_option maxRecDepth 100000
def BruOk (w:World):Prop:=w.cell? ⟨3,15,none⟩=some (.int .u8 4)∧3<w.heap.size
theorem BruOk.below {w w':World} (h:BruOk w) (hb:Below w.heap.size w w'):BruOk w':=⟨(hb.cell (p:=⟨3,15,none⟩) h.2).trans h.1,Nat.lt_of_lt_of_le h.2 hb.size⟩
theorem tz_any (w:World) (hT:BruOk w):Calls Tryz.prog 174 #[.int .u64 16] w fun e w'=>e=.returned (.int .i64 4)∧w'=w:=by
 have h0:=hT.1
 have h1:=hT.2
 have tz:Calls Tryz.prog 182 #[.int .u64 16] w fun e w'=>e=.returned (.int .i64 4)∧w'=w:=by
  have f1:IntKind.u64.wrap (-16)=18446744073709551600:=by decide +kernel
  have f2:bits .and .u64 16 18446744073709551600=16:=by decide +kernel
  have f3:IntKind.u64.wrap 4573923408821661840=4573923408821661840:=by decide +kernel
  go_enter Tryz.func182,Tryz.ntmps182
  go_wp2
  go_ret
  exact ⟨rfl,rfl⟩
 go_enter Tryz.func174,Tryz.ntmps174
 go_wp2_with fail
 refine tz.mono ?_
 rintro e w1 ⟨rfl,rfl⟩
 go_wp2
 go_ret
 exact ⟨rfl,rfl⟩
theorem pow2_any (w:World):Calls Tryz.prog 173 #[.int .i64 16] w fun e w'=>e=.returned (.bool true)∧w'=w:=by
 go_enter Tryz.func173,Tryz.ntmps173
 go_wp2
 go_ret
 exact ⟨rfl,rfl⟩
def digC:ByteArray:=⟨#[48,49,50,51,52,53,54,55,56,57,97,98,99,100,101,102,103,104,105,106,107,108,109,110,111,112,113,114,115,116,117,118,119,120,121,122]⟩
theorem digC_get:∀ d,d<16→∃ h:d<digC.size,(digC[d]'h).toNat=hx d:=by
 intro d hd
 have h:∀ d:Fin 16,((digC.get! d.1).toNat=hx d.1):=by decide +kernel
 have hs:d<digC.size:=Nat.lt_of_lt_of_le hd (by decide)
 refine ⟨hs,?_⟩
 have:=h ⟨d,hd⟩
 rw [get!_eq digC d hs] at this
 exact this
theorem hx_lt256 {d:Nat} (h:d<16):hx d<256:=by unfold hx;split <;> omega
theorem strC_hx {d:Nat} (h:d<16) (D:ByteArray):Lib.strCells (hxT d ++ D)=.int .u8 (hx d:Nat) :: Lib.strCells D:=by
 have e:(UInt8.ofNat (hx d)).toNat=hx d:=by rw [UInt8.toNat_ofNat',Nat.mod_eq_of_lt (hx_lt256 h)]
 show ((⟨#[UInt8.ofNat (hx d)]⟩:ByteArray) ++ D).data.toList.map _=_
 simp [Lib.strCells,e]
def z65:Array Value:=Array.replicate 65 (.int .u8 0)
theorem z65_zero (w:World):(zeroValue 211).run Tryz.prog w=.ok (.agg z65) w:=by kernel_rfl
theorem u64_and15 (x:Int) (h0:0≤x) (h1:x<18446744073709551616):bits .and .u64 x 15=x % 16:=bits_mask .u64 64 (by decide) (fun n h0 h1=>by simp only [IntKind.wrap_u64];omega) 4 (by decide) x h0 h1
set_option maxHeartbeats 4000000 in
theorem fbits_any (u:Nat) (hu:u<4294967296) (w:World) (hT:BruOk w) :
  Calls Tryz.prog 151 #[.slice none 0 0,.int .u64 u,.int .i64 16,.bool false,.bool false] w fun e w'=>e=.returned (.tuple #[.slice none 0 0,.string (xdN u)])∧Below w.heap.size w w':=by
 have HTZ:=hide_ (fun W (h:Below w.heap.size w W)=>tz_any W (hT.below h))
 have HP2:=hide_ (fun W=>pow2_any W)
 have hz:=z65_zero
 clear hT
 go_enter Tryz.func151,Tryz.ntmps151
 go_wp2_with fail
 refine (HP2.out _).mono ?_
 rintro e w1 ⟨rfl,rfl⟩
 have HB1:=hide_ (show Below w.heap.size w (w.alloc (.cells z65 211)) from (Below.refl _ _).alloc (Nat.le_refl _) _)
 have HK1:=hide_ (Blk.new w 211 z65)
 go_wp2_with fail
 refine (HTZ.out _ HB1.out).mono ?_
 rintro e w1 ⟨rfl,rfl⟩
 obtain ⟨w1,hw1⟩:∃ W,W=w.alloc (.cells z65 211):=⟨_,rfl⟩
 rw [← hw1] at HB1 HK1 ⊢
 clear hw1
 have H0:=hide_ (show xdN u ++ ⟨#[]⟩=xdN u by apply ByteArray.ext;simp)
 go_wp2
 go_loopw [1,13] (fun s1 s13 wr=>∃ (y k:Nat) (D:ByteArray) (cs:Array Value),s1=.int .u64 y∧s13=.int .i64 k∧k+D.size=65∧D.size≤7∧y<16 ^ (8 - D.size)∧Hid (xdN y ++ D=xdN u)∧Hid (Blk wr w.heap.size 211 cs)∧Hid (cs.size=65∧cs.toList.drop k=Lib.strCells D)∧Hid (Below w.heap.size w wr)) (fun s1 _ _=>(intOf s1).toNat)
 case atStart=>exact ⟨u,65,⟨#[]⟩,z65,rfl,rfl,rfl,Nat.zero_le _,hu,H0,HK1,hide_ ⟨by decide +kernel,by rw [List.drop_eq_nil_of_le (by decide +kernel)];rfl⟩,HB1⟩
 case round =>
  obtain ⟨y,k,D,cs,rfl,rfl,hk,hD,hy,HE,HK,HC,HB⟩:=hrel
  obtain ⟨k1,hk1⟩:∃ j,k=j+1:=⟨k - 1,by omega⟩
  have s1:IntKind.i64.wrap ((k:Int) - 1)=(k1:Int):=by rw [show (k:Int) - 1=(k1:Int) by omega];exact IntWalk.i64_in _ (by omega)
  have hk65:k1<65:=by omega
  have hlt:=HK.out.lt
  have y64:y<18446744073709551616:=Nat.lt_of_lt_of_le hy (Nat.le_trans (Nat.pow_le_pow_right (by omega) (show 8 - D.size≤8 by omega)) (by decide))
  have hcell:=HK.out.cell k1
  rw [Array.getElem?_eq_getElem (by rw [HC.out.1];exact hk65)] at hcell
  have hfz:=HK.out.frozen k1
  have HST:=hide_ (fun (d:Nat) (hd:d<16)=>show (cs.setIfInBounds k1 (.int .u8 (hx d:Nat))).size=65∧(cs.setIfInBounds k1 (.int .u8 (hx d:Nat))).toList.drop k1=Lib.strCells (hxT d ++ D) by
   obtain ⟨e1,e2⟩:=HC.out
   refine ⟨by rw [Array.size_setIfInBounds];exact e1,?_⟩
   rw [Array.toList_setIfInBounds,List.drop_eq_getElem_cons (by rw [List.length_set,Array.length_toList,e1];exact hk65),List.getElem_set_self,List.drop_set_of_lt (by omega),← hk1,e2]
   exact (strC_hx hd D).symm)
  have HBK:=hide_ (fun u=>HK.out.set_ k1 u)
  have HBB:=hide_ (fun u=>HB.out.setCell (p:=⟨w.heap.size,k1,none⟩) (Nat.le_refl _) u)
  by_cases h:y<16
  ·have c1:decide ((16:Int)≤(y:Int))=false:=decide_eq_false (by omega)
   have c2:decide (16≤y)=false:=decide_eq_false (by omega)
   obtain ⟨hs,hg⟩:=digC_get y h
   unfold digC at hs hg
   have HST:=hide_ (HST.out y h)
   have HEQ:=hide_ (show hxT y ++ D=xdN u by rw [← HE.out,xdN_small h])
   obtain ⟨v,hv⟩:∃ v,v=hx y:=⟨_,rfl⟩
   rw [← hv] at hg HST
   have HV:=hide_ hv
   clear hv
   obtain ⟨F,hF⟩:∃ F,F=hxT y ++ D:=⟨_,rfl⟩
   have hFs:F.size+k1=65:=by rw [hF,ByteArray.size_append,hxT_size];omega
   rw [← hF] at HST HEQ
   have hal:Tryz.prog.arrayLen 211=65:=by kernel_rfl
   have hsl:∀ W,(Instr.sliceAt 211 (.pointer (some ⟨w.heap.size,0,none⟩)) (some (.int .i64 (k1:Int))) none none).run Tryz.prog W=.ok (.slice (some ⟨w.heap.size,k1,none⟩) F.size F.size) W:=fun W=>by
    rw [run_sliceAt_array_l W 211 ⟨w.heap.size,0,none⟩ (by kernel_rfl) .i64 (k1:Int) (by omega) (by rw [hal];omega),hal,show F.size=65 - k1 by omega]
    go_simp
    omega
   have hcv:(convert 24 9 (.slice (some ⟨w.heap.size,k1,none⟩) F.size F.size)).run Tryz.prog (wr.setCell ⟨w.heap.size,k1,none⟩ (.int .u8 (v:Nat)))=.ok (.string F) (wr.setCell ⟨w.heap.size,k1,none⟩ (.int .u8 (v:Nat))):=by
    have h:=run_convert_bytes_back (P:=Tryz.prog) (wr.setCell ⟨w.heap.size,k1,none⟩ (.int .u8 (v:Nat))) 24 9 5 ⟨w.heap.size,k1,none⟩ F.size F.data.toList Tryz.underlying24 Tryz.underlying5 Tryz.underlying9 (fun j hj=>by
     rw [Lib.add_plain,(HBK.out (.int .u8 (v:Nat))).cell]
     have h1:=congrArg (fun l=>l[j]?) HST.out.2
     simp only [List.getElem?_drop,Array.getElem?_toList] at h1
     rw [h1]
     rw [Lib.strCells,List.getElem?_map,List.getElem?_eq_getElem hj]
     rfl)
    have hl:F.data.toList.length=F.size:=Array.length_toList
    rw [hl] at h
    rw [h]
   clear hF hal
   go_wp2_with fail
   go_ret2
   exact ⟨by rw [← HEQ.out];rfl,HBB.out _⟩
  ·have c1:decide ((16:Int)≤(y:Int))=true:=decide_eq_true (by omega)
   have c2:decide (16≤y)=true:=decide_eq_true (by omega)
   obtain ⟨d,hd⟩:∃ d,d=y % 16:=⟨_,rfl⟩
   obtain ⟨q,hq⟩:∃ q,q=y / 16:=⟨_,rfl⟩
   have hd16:d<16:=by omega
   have b1:bits .and .u64 (y:Int) 15=(d:Int):=by rw [u64_and15 _ (by omega) (by omega)];omega
   have b2:(y:Int) / 16=(q:Int):=by omega
   obtain ⟨hs,hg⟩:=digC_get d hd16
   unfold digC at hs hg
   have HST:=hide_ (HST.out d hd16)
   have HEQ:=hide_ (show xdN q ++ (hxT d ++ D)=xdN u by rw [← HE.out,xdN_big h,hd,hq,app_assoc])
   have hqy:q<y:=by omega
   have hD2:(hxT d ++ D).size=D.size+1:=by rw [ByteArray.size_append,hxT_size];omega
   have hDq:D.size+1≤7∧q<16 ^ (8 - (D.size+1)):=by
    have h7:D.size≤6:=by
     rcases Nat.lt_or_ge D.size 7 with h7 | h7
     ·omega
     ·have:8 - D.size≤1:=by omega
      have:=Nat.lt_of_lt_of_le hy (Nat.pow_le_pow_right (by omega) this)
      omega
    refine ⟨by omega,?_⟩
    rw [show 8 - D.size=8 - (D.size+1)+1 by omega,Nat.pow_succ] at hy
    omega
   obtain ⟨v,hv⟩:∃ v,v=hx d:=⟨_,rfl⟩
   obtain ⟨D',hD'⟩:∃ v,v=hxT d ++ D:=⟨_,rfl⟩
   rw [← hv] at hg HST
   rw [← hD'] at HST HEQ hD2
   have HDD:=hide_ (And.intro hD2 hDq)
   clear hv hD' hd hq hD2 hDq HE hy
   go_wp2_with fail
   go_roundw
   case rel=>exact ⟨q,k1,D',_,rfl,rfl,by rw [HDD.out.1];omega,by rw [HDD.out.1];exact HDD.out.2.1,by rw [HDD.out.1];exact HDD.out.2.2,HEQ,hide_ (HBK.out _),HST,hide_ (HBB.out _)⟩
   case measure=>simp [intOf];omega
set_option maxHeartbeats 1000000 in
theorem fint_any (u:Nat) (hu:u<4294967296) (w:World) (hT:BruOk w) :
  Calls Tryz.prog 130 #[.int .i64 u,.int .i64 16] w fun e w'=>e=.returned (.string (xdN u))∧Below w.heap.size w w':=by
 have HF:=hide_ (fbits_any u hu w hT)
 have c0:decide ((u:Int)<0)=false:=decide_eq_false (by omega)
 have c1:IntKind.u64.wrap (u:Int)=(u:Int):=IntWalk.u64_in _ (by omega)
 obtain ⟨x,hx⟩:∃ x,x=xdN u:=⟨_,rfl⟩
 rw [← hx] at HF ⊢
 clear hx hT
 have HI:=hide_ (show Calls Tryz.prog 160 #[.int .i64 u,.int .i64 16] w fun e w'=>e=.returned (.string x)∧Below w.heap.size w w' by
  go_enter Tryz.func160,Tryz.ntmps160
  go_wp2_with fail
  refine HF.out.mono ?_
  rintro e w1 ⟨rfl,hb⟩
  have HB:=hide_ hb
  clear hb
  go_wp2
  go_ret
  exact ⟨rfl,HB.out⟩)
 clear HF c0 c1
 go_enter Tryz.func130,Tryz.ntmps130
 go_wp2_with fail
 refine HI.out.mono ?_
 rintro e w1 ⟨rfl,hb⟩
 have HB:=hide_ hb
 clear hb
 go_wp2
 go_ret
 exact ⟨rfl,HB.out⟩
end Go.Proofs.YtikbegmodacopaaGreatDoor

namespace Go.Proofs.YtikbegmodacopaaGreatDoor
open Go.RowKit Go.PlainAid Go.Shelf Go.BigFrame
set_option linter.unusedSimpArgs false
set_option linter.unusedVariables false
set_option maxRecDepth 100000
theorem rep_one (c:UInt8):∀ k:Nat,Lib.repeatL [c] k=List.replicate k c:=by
 intro k
 induction k with
 | zero=>rfl
 | succ k ih=>rw [List.replicate_succ,← ih];rfl
theorem rep_zer (k:Nat):(⟨(Lib.repeatL (⟨#[48]⟩:ByteArray).data.toList k).toArray⟩:ByteArray)=zerT k:=by
 show (⟨(Lib.repeatL [48] k).toArray⟩:ByteArray)=_
 rw [rep_one]
 apply ByteArray.ext
 simp [zerT]
theorem rep_bl (k:Nat):(⟨(Lib.repeatL (⟨#[32]⟩:ByteArray).data.toList k).toArray⟩:ByteArray)=blT k:=by
 show (⟨(Lib.repeatL [32] k).toArray⟩:ByteArray)=_
 rw [rep_one]
 apply ByteArray.ext
 simp [blT]
theorem joined_new2 (a b:ByteArray) (W:World) (hs:(a ++ b).size≤140737488355328) :
  Calls Tryz.prog 66 #[.slice (some ⟨W.heap.size,0,none⟩) 2 2] (W.alloc (.cells #[.string a,.string b] 9)) fun e w'=>e=.returned (.string (a ++ b))∧Below W.heap.size W w':=by
 have h:=joined_any W.heap.size 2 [a,b] (W.alloc (.cells #[.string a,.string b] 9)) (fun j x hj=>by
  rw [(Blk.new W 9 #[.string a,.string b]).cell]
  match j,hj with
  | 0,hj=>simp at hj;subst hj;rfl
  | 1,hj=>simp at hj;subst hj;rfl
  | j+2,hj=>simp at hj) (by simp) (by simp) (Nat.le_refl _) (by rw [catL_2];exact hs)
 rw [catL_2] at h
 refine h.mono ?_
 rintro e w' ⟨rfl,hb⟩
 exact ⟨rfl,((Below.refl _ _).alloc (Nat.le_refl _) _).trans (hb.mono (by simp))⟩
theorem catL_three (a b c:ByteArray):catL [a,b,c]=a ++ b ++ c:=by apply ByteArray.ext;simp [catL]
theorem joined_new3 (a b c:ByteArray) (W:World) (hs:(a ++ b ++ c).size≤140737488355328) :
  Calls Tryz.prog 66 #[.slice (some ⟨W.heap.size,0,none⟩) 3 3] (W.alloc (.cells #[.string a,.string b,.string c] 9)) fun e w'=>e=.returned (.string (a ++ b ++ c))∧Below W.heap.size W w':=by
 have h:=joined_any W.heap.size 3 [a,b,c] (W.alloc (.cells #[.string a,.string b,.string c] 9)) (fun j x hj=>by
  rw [(Blk.new W 9 #[.string a,.string b,.string c]).cell]
  match j,hj with
  | 0,hj=>simp at hj;subst hj;rfl
  | 1,hj=>simp at hj;subst hj;rfl
  | 2,hj=>simp at hj;subst hj;rfl
  | j+3,hj=>simp at hj) (by simp) (by simp) (Nat.le_refl _) (by rw [catL_three];exact hs)
 rw [catL_three] at h
 refine h.mono ?_
 rintro e w' ⟨rfl,hb⟩
 exact ⟨rfl,((Below.refl _ _).alloc (Nat.le_refl _) _).trans (hb.mono (by simp))⟩
set_option maxHeartbeats 2000000 in
theorem lhex_any (x d:Nat) (h1:1≤d) (h8:d≤8) (hx:x<16 ^ d) (w:World) (hT:BruOk w) :
  Calls Tryz.prog 97 #[.int .i64 x,.int .i64 d] w fun e w'=>e=.returned (.string (xdS d x))∧Below w.heap.size w w':=by
 have hx32:x<4294967296:=Nat.lt_of_lt_of_le hx (Nat.le_trans (Nat.pow_le_pow_right (by omega) h8) (by decide))
 have HF:=hide_ (fint_any x hx32 w hT)
 have hsz:=xdN_size d x h1 hx
 have HS:=hide_ (show zerT (d - (xdN x).size) ++ xdN x=xdS d x from rfl)
 have HZ:=hide_ (xdS_size d x h1 hx)
 have HP:=hide_ (fun W=>rep_zer (d - (xdN x).size) ▸ Tryz.strings_Repeat ⟨#[48]⟩ (d - (xdN x).size) W (by omega) (by show 1 * _≤_;omega))
 obtain ⟨X,hX⟩:∃ X,X=xdN x:=⟨_,rfl⟩
 rw [← hX] at HF HS HP hsz
 clear hX
 have s1:IntKind.i64.wrap ((d:Int) - (X.size:Int))=((d - X.size:Nat):Int):=by rw [show (d:Int) - (X.size:Int)=((d - X.size:Nat):Int) by omega];exact IntWalk.i64_in _ (by omega)
 obtain ⟨k,hk⟩:∃ k,k=d - X.size:=⟨_,rfl⟩
 rw [← hk] at s1 HS HP
 have s2:decide ((k:Int)<0)=false:=decide_eq_false (by omega)
 have HJ:=hide_ (fun W=>joined_new2 (zerT k) X W (by rw [HS.out,HZ.out];omega))
 rw [HS.out] at HJ
 obtain ⟨Z,hZ⟩:∃ Z,Z=zerT k:=⟨_,rfl⟩
 rw [← hZ] at HJ HP
 clear hZ HS hx hk hT
 go_enter Tryz.func97,Tryz.ntmps97
 go_wp2_with fail
 refine HF.out.mono ?_
 rintro e w1 ⟨rfl,hb1⟩
 have HB1:=hide_ hb1
 clear hb1
 go_wp2_with fail
 refine (HP.out _).mono ?_
 rintro e w2 ⟨rfl,hb2⟩
 have HB2:=hide_ (HB1.out.trans (hb2.mono HB1.out.size))
 clear hb2
 go_wp2_with fail
 refine (HJ.out _).mono ?_
 rintro e w3 ⟨rfl,hb3⟩
 have HB3:=hide_ (HB2.out.trans (hb3.mono HB2.out.size))
 clear hb3
 go_wp2
 go_ret
 exact ⟨rfl,HB3.out⟩
theorem strD_info:(Tryz.prog.info? 9).map (fun i=>(i.zero,i.size,i.bytes))=some (some (.string ⟨#[]⟩),1,16):=by kernel_rfl
theorem prS_take (l:List Int) (k:Nat) (h:k<l.length):strV (prS (l.take (k+1)))=strV (prS (l.take k)) ++ [.string (xdS 2 (bA l k).toNat)]:=by
 rw [take_snoc l 0 k h]
 unfold strV prS bA
 simp
set_option maxHeartbeats 4000000 in
theorem lrow_any (A:Option Addr) (m c i:Nat) (l:List Int) (what:ByteArray) (w:World) (hr:Reads w w.heap.size 1 A m (u8s l)) (hm1:1≤m) (hm8:m≤8) (hl:isBytes l) (hi:i<16777216) (hw:what.size≤30) (hT:BruOk w) :
  Calls Tryz.prog 58 #[.int .i64 i,.slice A m c,.string what] w fun e w'=>e=.returned (.string (rowS i l what))∧Below w.heap.size w w':=by
 obtain ⟨i0,hi0,hz0,hz1,hz2⟩:=info_parts strD_info
 have la:l.length=m:=by simpa using hr.1
 have H6:=hide_ (fun W (hb:Below w.heap.size w W)=>lhex_any i 6 (by omega) (by omega) (by omega) W (hT.below hb))
 have H2:=hide_ (fun (x:Nat) (hx:x<256) W (hb:Below w.heap.size w W)=>lhex_any x 2 (by omega) (by omega) (by omega) W (hT.below hb))
 have HBY:=hide_ (fun j=>bA_byte hl j)
 have HL:=hide_ la
 have HR:=hide_ hr
 have HLB:=hide_ hl
 have HI:=hide_ hi
 have HPT:=hide_ (fun k (h:k<m)=>prS_take l k (by omega))
 have HRS:=hide_ (rowH_size hl hi)
 obtain ⟨RR,hRR⟩:∃ S,S=rowS i l what:=⟨_,rfl⟩
 rw [← hRR]
 have HROW:=hide_ (show RR=rowH i l ++ (if what.size=0 then e0C else blT (24 - (rowH i l).size) ++ what) ++ ⟨#[10]⟩ from hRR)
 clear la hr hl hT hRR
 go_enter Tryz.func58,Tryz.ntmps58
 go_wp2
 go_loopw [7,13] (fun v kx wr=>∃ k:Nat,k≤m∧kx=.int .i64 k∧wr.ownsRow w.heap.size 9 1 v k (strV (prS (l.take k)))∧Below w.heap.size w wr) (fun _ kx _=>m - (intOf kx).toNat)
 case atStart=>exact ⟨0,Nat.zero_le _,rfl,World.ownsRow_nil _ _ _ _,Below.refl _ _⟩
 case round =>
  obtain ⟨k,hk,rfl,hown,hb⟩:=hrel
  obtain ⟨A0,c0,rfl,hc0,hc1⟩:=ownsRow_slice hown
  have HO:=hide_ (one_row (r:=⟨9,1,.slice A0 k c0,k,strV (prS (l.take k))⟩) hown)
  have HB:=hide_ hb
  by_cases hlt:k<m
  ·obtain ⟨ad,u,rfl,hadb,hu,hc⟩:=(HR.out.below hb).at_ hlt
   obtain rfl:=u8s_at (by rw [HL.out];omega) hu
   obtain ⟨g0,g1⟩:=HBY.out k
   obtain ⟨x,hx⟩:∃ x:Nat,bA l k=(x:Int):=⟨(bA l k).toNat,by omega⟩
   have NEXT:=hide_ (HPT.out k hlt)
   rw [hx] at NEXT hc g1
   rw [Int.toNat_natCast] at NEXT
   have D2:=hide_ (H2.out x (by omega) wr hb)
   have s5:IntKind.i64.wrap (x:Int)=(x:Int):=IntWalk.i64_in _ (by omega)
   obtain ⟨t2,ht2⟩:∃ t,t=xdS 2 x:=⟨_,rfl⟩
   rw [← ht2] at D2 NEXT
   clear hx hu ht2 hadb g0 hown hb
   go_wp2_with fail
   refine D2.out.mono ?_
   rintro e w2 ⟨rfl,hb2⟩
   have HB2:=hide_ (HB.out.trans (hb2.mono HB.out.size))
   have HO2:=hide_ (HO.out.below hb2)
   clear hb2 hc
   go_wp2_with (at_builtin;refine wpList_append_owns _ rfl (.tmp 17) (.tmp 21) 33 rfl w.heap.size _ 0 9 1 (.slice A0 k c0) k (strV (prS (l.take k))) rfl (HO2.out.alloc _) (by have:=HB2.out.size;simp;omega) i0 _ 16 Tryz.underlying33 hi0 hz0 hz1 hz2 rfl (by omega) rfl _ _ 1 1 [.string t2] rfl (reads_new w2 9 1 1 [.string t2] rfl) (by simp [Value.oneCell']) (by simp only [maxLen];omega) (by omega) ?_)
   intro v1 w3 hO1 hb1 hsz1
   have HB3:=hide_ ((HB2.out.alloc HB2.out.size _).trans hb1)
   have HO3:=hide_ (hO1.at_ (i:=0) rfl)
   clear hO1 hb1 hsz1
   go_wp2
   go_roundw
   case rel=>exact ⟨k+1,by omega,by go_num,by rw [NEXT.out];exact HO3.out,HB3.out⟩
   case measure=>simp [intOf];omega
  ·obtain rfl:k=m:=by omega
   have D6:=hide_ (H6.out wr hb)
   have hlt0:0<k:=by omega
   obtain ⟨g,cg,hv⟩:=ownsRow_some hown hlt0
   injection hv with hv1 hv2 hv3
   subst hv1 hv3
   have HT:=hide_ (show l.take k=l from List.take_of_length_le (Nat.le_of_eq HL.out))
   rw [HT.out] at hown HO
   have HSP:=hide_ (show xdS 6 i ++ ⟨#[32,32]⟩ ++ ⟨(Lib.join ((prS l).map (·.data.toList)) [32]).toArray⟩=rowH i l by
    cases l with
    | nil=>have:=HL.out;simp at this;omega
    | cons x t =>
     unfold rowH
     rw [← join_sp]
     apply ByteArray.ext
     simp)
   have HJN:=hide_ (fun W (hbw:Below wr.heap.size wr W)=>show Calls Tryz.prog 98 #[.slice (some ⟨g,0,none⟩) k c0,.string ⟨#[32]⟩] W fun e w'=>e=.returned (.string ⟨(Lib.join ((prS l).map (·.data.toList)) [32]).toArray⟩)∧Below W.heap.size W w' by
    have hgb:=(HO.out.base (i:=0) rfl).2
    have hlen:(prS l).length=k:=by rw [prS,List.length_map,HL.out]
    have:=Tryz.strings_Join g 0 c0 (prS l) ⟨#[32]⟩ W (fun j x hj=>by
     rw [Nat.zero_add]
     exact (hbw.cell (p:=⟨g,j,none⟩) hgb).trans (HO.out.cell (i:=0) (j:=j) rfl (by unfold strV;rw [List.getElem?_map,hj];rfl))) (Nat.lt_of_lt_of_le hgb hbw.size) (by omega) (by omega) (by
      have h9:=congrArg ByteArray.size HSP.out
      rw [ByteArray.size_append,HRS.out] at h9
      have h8:(⟨(Lib.join ((prS l).map (·.data.toList)) [32]).toArray⟩:ByteArray).size=(Lib.join ((prS l).map (·.data.toList)) [32]).length:=List.size_toArray
      rw [h8] at h9
      have h7:=HL.out
      show (Lib.join ((prS l).map (·.data.toList)) [32]).length≤_
      omega)
    rw [hlen] at this
    exact this)
   obtain ⟨J,hJ⟩:∃ J:ByteArray,J=⟨(Lib.join ((prS l).map (·.data.toList)) [32]).toArray⟩:=⟨_,rfl⟩
   rw [← hJ] at HJN HSP
   have hrs:=HRS.out
   rw [HL.out] at hrs
   have HJ3:=hide_ (fun W=>joined_new3 (xdS 6 i) ⟨#[32,32]⟩ J W (by rw [HSP.out];omega))
   rw [HSP.out] at HJ3
   obtain ⟨S,hS⟩:∃ S,S=rowH i l:=⟨_,rfl⟩
   obtain ⟨X6,hX6⟩:∃ S,S=xdS 6 i:=⟨_,rfl⟩
   rw [← hS] at HJ3 hrs HROW
   rw [← hX6] at HJ3 D6
   clear hJ hS hX6 HSP HRS hown H6 H2 HR HBY HPT HLB HI HT HL
   have HO9:=HO
   clear HO
   go_wp2_with fail
   refine D6.out.mono ?_
   rintro e w2 ⟨rfl,hb2⟩
   have HB2:=hide_ (HB.out.trans (hb2.mono HB.out.size))
   have HJN2:=hide_ (HJN.out w2 hb2)
   clear hb2 HJN
   go_wp2_with fail
   refine HJN2.out.mono ?_
   rintro e w3 ⟨rfl,hb3⟩
   have HB3:=hide_ (HB2.out.trans (hb3.mono HB2.out.size))
   clear hb3 HJN2
   go_wp2_with fail
   refine (HJ3.out _).mono ?_
   rintro e w4 ⟨rfl,hb4⟩
   have HB4:=hide_ (HB3.out.trans (hb4.mono HB3.out.size))
   clear hb4 HJ3
   by_cases h0:what.size=0
   ·obtain rfl:what=⟨#[]⟩:=by
     apply ByteArray.ext
     exact Array.eq_empty_of_size_eq_zero h0
    have HJ2:=hide_ (fun W=>joined_new2 S ⟨#[10]⟩ W (by rw [ByteArray.size_append,hrs];show _+1≤_;omega))
    have FIN:=hide_ (show S ++ ⟨#[10]⟩=RR by
     have e:=HROW.out
     rw [if_pos h0] at e
     rw [e]
     apply ByteArray.ext
     simp [e0C])
    rw [FIN.out] at HJ2
    clear HROW FIN hrs
    go_wp2_with fail
    refine (HJ2.out _).mono ?_
    rintro e w5 ⟨rfl,hb5⟩
    have HB5:=hide_ (HB4.out.trans (hb5.mono HB4.out.size))
    clear hb5 HJ2
    go_wp2
    go_ret
    exact ⟨rfl,HB5.out⟩
   ·have hemp:what.toList.isEmpty=false:=by
     rw [ByteArray.toList_eq]
     cases h:what.data.toList with
     | nil=>exact absurd (by show what.data.size=0;rw [← Array.length_toList,h];rfl) h0
     | cons x t=>rfl
    obtain ⟨q,hq⟩:∃ q,q=24 - S.size:=⟨_,rfl⟩
    have HP:=hide_ (fun W=>rep_bl q ▸ Tryz.strings_Repeat ⟨#[32]⟩ q W (by omega) (by show 1 * _≤_;omega))
    have HE:=hide_ (show S ++ blT q ++ what ++ ⟨#[10]⟩=RR by
     have e:=HROW.out
     rw [if_neg h0,← hq] at e
     rw [e]
     apply ByteArray.ext
     simp)
    have HS3:=hide_ (show (S ++ blT q ++ what).size≤100 by rw [ByteArray.size_append,ByteArray.size_append,blT_size];omega)
    have HJ3:=hide_ (fun W=>joined_new3 S (blT q) what W (by have:=HS3.out;omega))
    have HJ2:=hide_ (fun W=>joined_new2 (S ++ blT q ++ what) ⟨#[10]⟩ W (by rw [ByteArray.size_append];show _+1≤_;have:=HS3.out;omega))
    rw [HE.out] at HJ2
    obtain ⟨T,hT⟩:∃ T,T=S ++ blT q ++ what:=⟨_,rfl⟩
    obtain ⟨Bq,hBq⟩:∃ T,T=blT q:=⟨_,rfl⟩
    rw [← hT] at HJ3 HJ2
    rw [← hBq] at HJ3 HP
    have s1:IntKind.i64.wrap (24 - (S.size:Int))=24 - (S.size:Int):=IntWalk.i64_in _ (by omega)
    have s2:max (0:Int) (24 - (S.size:Int))=(q:Int):=by omega
    clear HROW HE HS3 hT hBq hq hrs h0
    go_wp2_with fail
    refine (HP.out _).mono ?_
    rintro e w5 ⟨rfl,hb5⟩
    have HB5:=hide_ (HB4.out.trans (hb5.mono HB4.out.size))
    clear hb5 HP
    go_wp2_with fail
    refine (HJ3.out _).mono ?_
    rintro e w6 ⟨rfl,hb6⟩
    have HB6:=hide_ (HB5.out.trans (hb6.mono HB5.out.size))
    clear hb6 HJ3
    go_wp2_with fail
    refine (HJ2.out _).mono ?_
    rintro e w7 ⟨rfl,hb7⟩
    have HB7:=hide_ (HB6.out.trans (hb7.mono HB6.out.size))
    clear hb7 HJ2
    go_wp2
    go_ret
    exact ⟨rfl,HB7.out⟩
end Go.Proofs.YtikbegmodacopaaGreatDoor
namespace Go.Proofs.YtikbegmodacopaaGreatDoor
open Go.RowKit Go.PlainAid Go.Shelf
set_option linter.unusedSimpArgs false
set_option linter.unusedVariables false
set_option maxRecDepth 100000
theorem strC_app (a b:ByteArray):Lib.strCells (a ++ b)=Lib.strCells a ++ Lib.strCells b:=by
 simp only [Lib.strCells,ByteArray.data_append,Array.toList_append,List.map_append]
def DwAt (R b:Nat) (T:ByteArray) (w:World):Prop:=b<R∧∃ p v,(p=.pointer none∨p=.pointer (some ⟨b,0,none⟩))∧w.heap[b]?=some (.cells #[p,v] 96 (0,0))∧w.ownsRowF R 5 1 v T.size (Lib.strCells T)
structure DwK (R b:Nat) (w w':World):Prop where
 os:w'.os=w.os
 tape:w'.tape=w.tape
 output:w'.output=w.output
 size:w.heap.size≤w'.heap.size
 block:∀ k,k<R→k≠b→w'.heap[k]?=w.heap[k]?
 others:Lib.OthersKept 5 (some b) w w'
section
variable {R b:Nat} {T:ByteArray} {w w':World}
theorem DwK.below {lo:Nat} (h:DwK R b w w') (h1:lo≤R) (h2:lo≤b):Below lo w w':=⟨h.os,h.tape,h.output,h.size,fun k hk=>h.block k (by omega) (by omega)⟩
theorem DwAt.lt (h:DwAt R b T w):b<w.heap.size:=by
 obtain ⟨_,p,v,_,hb,_⟩:=h
 exact (Array.getElem?_eq_some_iff.1 hb).1
theorem DwAt.below (h:DwAt R b T w) (hb:Below w.heap.size w w'):DwAt R b T w':=by
 have hlt:=h.lt
 obtain ⟨hB,p,v,hp,hg,hown⟩:=h
 exact ⟨hB,p,v,hp,(hb.block b hlt).trans hg,hown.kept (row:=none) ⟨hb.os,hb.tape,hb.output,hb.size,fun k hk _=>hb.block k hk⟩ (by cases hv:v.ownBlock <;> simp)⟩
theorem dw_ne {e:TypeId} {v:Value} {n:Nat} {xs:List Value} (hB:b<R) (hown:w.ownsRowF R e 1 v n xs):v.ownBlock≠some b:=fun e=>by have:=(hown.lt b e).1;omega
theorem dw_set {p v:Value} {i:Nat} (u:Value) (hB:b<R) (hb:w.heap[b]?=some (.cells #[p,v] 96 (0,0))) (hown:w.ownsRowF R 5 1 v T.size (Lib.strCells T)) :
  (w.setCell ⟨b,i,none⟩ u).heap[b]?=some (.cells (#[p,v].setIfInBounds i u) 96 (0,0))∧(w.setCell ⟨b,i,none⟩ u).ownsRowF R 5 1 v T.size (Lib.strCells T) :=
 ⟨by simp [World.setCell,Array.getElem?_modify,hb],hown.kept (row:=some b) ⟨rfl,rfl,rfl,by simp [World.setCell],fun k _ hk=>Below.heap_setCell _ _ _ _ (fun e=>hk (by simp [e]))⟩ (Or.inr (dw_ne hB hown))⟩
theorem DwK.set (i:Nat) (u:Value) (w:World):DwK R b w (w.setCell ⟨b,i,none⟩ u) :=
 ⟨rfl,rfl,rfl,by simp [World.setCell],fun k _ hk=>Below.heap_setCell _ _ _ _ (fun e=>hk (by simp [e])),(Lib.OthersKept.refl _ _ w).setCell ⟨b,i,none⟩ rfl _⟩
theorem DwK.trans {w'':World} (h:DwK R b w w') (k:DwK R b w' w''):DwK R b w w'' :=
 ⟨k.os.trans h.os,k.tape.trans h.tape,k.output.trans h.output,Nat.le_trans h.size k.size,fun i h1 h2=>(k.block i h1 h2).trans (h.block i h1 h2),h.others.trans k.others⟩
end
set_option maxHeartbeats 1000000 in
theorem dw_check (R b:Nat) (T:ByteArray) (w:World) (h:DwAt R b T w) :
  Calls Tryz.prog 96 #[.pointer (some ⟨b,0,none⟩)] w fun e w'=>e=.returned (.tuple #[])∧(∃ v,w'.heap[b]?=some (.cells #[.pointer (some ⟨b,0,none⟩),v] 96 (0,0))∧w'.ownsRowF R 5 1 v T.size (Lib.strCells T))∧DwK R b w w':=by
 obtain ⟨hB,p,v,hp,hb,hown⟩:=h
 rcases hp with rfl | rfl
 ·refine (bld_fresh b w (by rw [Lib.cell_of_heap hb];rfl) (by simp [World.shape?,hb]) (Lib.frozen_of_heap hb 0)).mono ?_
  rintro e w' ⟨rfl,rfl⟩
  obtain ⟨h1,h2⟩:=dw_set (i:=0) (.pointer (some ⟨b,0,none⟩)) hB hb hown
  exact ⟨rfl,⟨v,h1,h2⟩,DwK.set _ _ _⟩
 ·refine (bld_used b w (by rw [Lib.cell_of_heap hb];rfl)).mono ?_
  rintro e w' ⟨rfl,rfl⟩
  exact ⟨rfl,⟨v,hb,hown⟩,⟨rfl,rfl,rfl,Nat.le_refl _,fun _ _ _=>rfl,Lib.OthersKept.refl _ _ _⟩⟩
set_option maxHeartbeats 2000000 in
theorem dw_string (R b:Nat) (T s:ByteArray) (w:World) (h:DwAt R b T w) (hlen:T.size+s.size≤140737488355328) (hR:R≤w.heap.size) :
  Calls Tryz.prog 57 #[.pointer (some ⟨b,0,none⟩),.string s] w fun e w'=>e=.returned (.tuple #[.int .i64 s.size,.nilIface])∧DwAt R b (T ++ s) w'∧DwK R b w w':=by
 obtain ⟨i0,hi,hz0,hz1,hz2⟩:=info_parts bld_u8
 have hB:=h.1
 go_enter Tryz.func57,Tryz.ntmps57
 go_wp2_with (go_at_call 96;refine (dw_check R b T _ h).mono ?_)
 rintro e w1 ⟨rfl,⟨v,hbk,hown⟩,hk1⟩
 have hlt:b<w1.heap.size:=(Array.getElem?_eq_some_iff.1 hbk).1
 have hne:=dw_ne hB hown
 have c1:w1.cell? ⟨b,1,none⟩=some v:=by rw [Lib.cell_of_heap hbk];rfl
 go_wp2_with (at_builtin;refine Lib.wpList_append_own_stringF _ rfl _ _ 24 9 rfl R 5 i0 Tryz.underlying24 Tryz.underlying9 hi hz0 hz1 hz2 _ _ _ rfl hown s rfl ?c3 ?c4 ?c5 ?_)
 case c3=>unfold maxLen;omega
 case c4=>omega
 case c5=>have:=hk1.size;omega
 intro v' w2 hown' hgrow _
 have hb2:w2.heap[b]?=some (.cells #[.pointer (some ⟨b,0,none⟩),v] 96 (0,0)):=by
  rw [hgrow.block b hlt (fun e=>hne e.symm)]
  exact hbk
 have d1:w2.cell? ⟨b,1,none⟩=some v:=by rw [Lib.cell_of_heap hb2];rfl
 have f1:w2.frozen? ⟨b,1,none⟩=false:=Lib.frozen_of_heap hb2 1
 obtain ⟨ao,n',cap,rfl⟩:∃ ao n' cap,v'=.slice ao n' cap:=by
  rcases hown'.2 with ⟨hv,_⟩ | ⟨gg,cap,cur,fz,hv,_⟩
  ·exact ⟨_,_,_,hv⟩
  ·exact ⟨_,_,_,hv⟩
 have hsz:(T ++ s).size=T.size+s.size:=ByteArray.size_append
 have hK2:DwK R b w1 w2:=⟨hgrow.os,hgrow.tape,hgrow.output,hgrow.size,fun k hk hkb=>hgrow.block k (by have:=hk1.size;omega) (fun e=>by have:=(hown.lt k e.symm).1;omega),(Lib.OthersKept.refl _ _ w1).grown hgrow (Lib.ownsRowF_kind hown)⟩
 have hA:DwAt R b (T ++ s) (w2.setCell ⟨b,1,none⟩ (.slice ao n' cap)):=by
  refine ⟨hB,.pointer (some ⟨b,0,none⟩),.slice ao n' cap,.inr rfl,?_,?_⟩
  ·simp [World.setCell,Array.getElem?_modify,hb2]
  ·rw [hsz,strC_app]
   exact hown'.kept (row:=some b) ⟨rfl,rfl,rfl,by simp [World.setCell],fun k _ hk=>Below.heap_setCell _ _ _ _ (fun e=>hk (by simp [e]))⟩ (Or.inr (dw_ne hB hown'))
 have hD:=(hk1.trans hK2).trans (DwK.set 1 (.slice ao n' cap) w2)
 go_wp2
 go_ret2
 exact ⟨rfl,hA,hD⟩
end Go.Proofs.YtikbegmodacopaaGreatDoor
