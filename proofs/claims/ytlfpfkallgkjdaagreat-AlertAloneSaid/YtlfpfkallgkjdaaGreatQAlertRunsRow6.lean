/- The walk of utf.Decode. -/
import Derived.Test.YtlfpfkallgkjdaaGreatQAlertRunsRow0
set_option maxRecDepth 20000
namespace Go.Proofs.YtlfpfkallgkjdaaGreat.Ut
open Go.RowKit
def f3:Array Value:=#[.int .i64 2,.int .u8 224,.int .u8 192,.int .i64 128,.int .i64 2047,.int .i64 (-1),.int .i64 3,.int .u8 240,.int .u8 224,.int .i64 2048,.int .i64 65535,.int .i64 (-1),.int .i64 4,.int .u8 248,.int .u8 240,.int .i64 65536,.int .i64 1114111,.int .i64 (-1)]
def z3:Array Value:=#[.int .i64 0,.int .u8 0,.int .u8 0,.int .i64 0,.int .i64 0,.int .i64 0,.int .i64 0,.int .u8 0,.int .u8 0,.int .i64 0,.int .i64 0,.int .i64 0,.int .i64 0,.int .u8 0,.int .u8 0,.int .i64 0,.int .i64 0,.int .i64 0]
theorem f3_one:f3.all (·.oneCell')=true:=by simp [f3,Value.oneCell']
set_option maxHeartbeats 400000 in
theorem forms_any (w:World):Calls Tryz.prog 173 #[] w fun e w'=>e=.returned (.agg f3)∧Below w.heap.size w w':=by
 go_enter Tryz.func173,Tryz.ntmps173
 go_wp2_with (refine wpList_store_row (o:=⟨none,.store 239 _ _,_,_,_,_⟩) rfl 239 _ _ rfl w.heap.size f3 rfl rfl 239 z3 (heap_alloc_new w _) (by kernel_rfl) rfl f3_one ?_)
 have hh:=setRow_heap (w.alloc (.cells z3 239)) w.heap.size z3 f3 239 (0,0) (heap_alloc_new w _)
 exact bodyPost_ret (results_cell rfl rfl (run_loadVar_row _ w.heap.size 239 239 f3 (0,0) _ hh Tryz.underlying239 rfl (by kernel_rfl))) rfl ⟨rfl,below_setRow ((Below.refl _ _).alloc (zG _) _) (zG _) _⟩
theorem idx_f0 (w:World):(Instr.index 239 (.agg f3) (.int .i64 0)).run Tryz.prog w=.ok (.agg #[.int .i64 2,.int .u8 224,.int .u8 192,.int .i64 128,.int .i64 2047,.int .i64 (-1)]) w:=by kernel_rfl
theorem idx_f1 (w:World):(Instr.index 239 (.agg f3) (.int .i64 1)).run Tryz.prog w=.ok (.agg #[.int .i64 3,.int .u8 240,.int .u8 224,.int .i64 2048,.int .i64 65535,.int .i64 (-1)]) w:=by kernel_rfl
theorem idx_f2 (w:World):(Instr.index 239 (.agg f3) (.int .i64 2)).run Tryz.prog w=.ok (.agg #[.int .i64 4,.int .u8 248,.int .u8 240,.int .i64 65536,.int .i64 1114111,.int .i64 (-1)]) w:=by kernel_rfl
def decAt (s:ByteArray) (a:Int):Nat × Nat:=if a<0 then (0,0) else dec (s.data.toList.drop a.toNat)
theorem drop_cons (s:ByteArray) (k:Nat) (h:k<s.size):s.data.toList.drop k=s[k] :: s.data.toList.drop (k+1):=by
 rw [List.drop_eq_getElem_cons (by rw [bsize]; exact h)]; rfl
theorem drop_out (s:ByteArray) (k:Nat) (h:s.size≤k):s.data.toList.drop k=[]:=List.drop_of_length_le (by rw [bsize]; exact h)
theorem dec_out (s:ByteArray) (a:Int) (w:World) (h:a<0∨(s.size:Int)≤a) :
  Calls Tryz.prog 143 #[.string s,.int .i64 a] w fun e w'=>e=.returned (.tuple #[.int .i64 0,.int .i64 0])∧w=w':=by
 by_cases h0:a<0
 ·go_enter Tryz.func143,Tryz.ntmps143
  go_wp2
  go_ret2
  exact ⟨rfl,rfl⟩
 ·have h1:(s.size:Int)≤a:=by omega
  go_enter Tryz.func143,Tryz.ntmps143
  go_wp2
  go_ret2
  exact ⟨rfl,rfl⟩
theorem dec_low (s:ByteArray) (k m:Nat) (w:World) (hk:k<s.size) (hm:(s[k]).toNat=m) (h:m<128) :
  Calls Tryz.prog 143 #[.string s,.int .i64 (k:Int)] w fun e w'=>e=.returned (.tuple #[.int .i64 (m:Int),.int .i64 1])∧w=w':=by
 have h0:¬ (k:Int)<0:=by omega
 have h1:¬ (s.size:Int)≤(k:Int):=by omega
 have h2:(m:Int)<128:=by omega
 go_enter Tryz.func143,Tryz.ntmps143
 go_wp2
 go_ret2
 exact ⟨rfl,rfl⟩
theorem mask_all:∀ m:Fin 256,((bits BinOp.and IntKind.u8 ((m.val:Nat):Int) 224 != 192)=!decide (m.val / 32=6))∧((bits BinOp.and IntKind.u8 ((m.val:Nat):Int) 240 != 224)=!decide (m.val / 16=14))∧((bits BinOp.and IntKind.u8 ((m.val:Nat):Int) 248 != 240)=!decide (m.val / 8=30)) ∧
  bits BinOp.andNot IntKind.u8 ((m.val:Nat):Int) 224=((m.val % 32:Nat):Int)∧bits BinOp.andNot IntKind.u8 ((m.val:Nat):Int) 240=((m.val % 16:Nat):Int)∧bits BinOp.andNot IntKind.u8 ((m.val:Nat):Int) 248=((m.val % 8:Nat):Int) ∧
  bits BinOp.and IntKind.u8 ((m.val:Nat):Int) 63=((m.val % 64:Nat):Int)∧(bits BinOp.and IntKind.u8 ((m.val:Nat):Int) 192 == 128)=(m.val / 64 == 2):=by decide +kernel
theorem mask0 (m:Nat) (h:m<256):(bits BinOp.and IntKind.u8 (m:Int) 224 != 192)=!decide (m / 32=6):=(mask_all ⟨m,h⟩).1
theorem mask1 (m:Nat) (h:m<256):(bits BinOp.and IntKind.u8 (m:Int) 240 != 224)=!decide (m / 16=14):=(mask_all ⟨m,h⟩).2.1
theorem mask2 (m:Nat) (h:m<256):(bits BinOp.and IntKind.u8 (m:Int) 248 != 240)=!decide (m / 8=30):=(mask_all ⟨m,h⟩).2.2.1
theorem andn0 (m:Nat) (h:m<256):bits BinOp.andNot IntKind.u8 (m:Int) 224=((m % 32:Nat):Int):=(mask_all ⟨m,h⟩).2.2.2.1
theorem andn1 (m:Nat) (h:m<256):bits BinOp.andNot IntKind.u8 (m:Int) 240=((m % 16:Nat):Int):=(mask_all ⟨m,h⟩).2.2.2.2.1
theorem andn2 (m:Nat) (h:m<256):bits BinOp.andNot IntKind.u8 (m:Int) 248=((m % 8:Nat):Int):=(mask_all ⟨m,h⟩).2.2.2.2.2.1
theorem low6 (m:Nat) (h:m<256):bits BinOp.and IntKind.u8 (m:Int) 63=((m % 64:Nat):Int):=(mask_all ⟨m,h⟩).2.2.2.2.2.2.1
theorem high2 (m:Nat) (h:m<256):(bits BinOp.and IntKind.u8 (m:Int) 192 == 128)=(m / 64 == 2):=(mask_all ⟨m,h⟩).2.2.2.2.2.2.2
theorem acc_lt (m:Nat) (l:List UInt8) (hm:m<32) (hl:l.length≤3):acc m l<16777216:=by
 match l,hl with
 | [],_=>simp only [acc,List.foldl_nil]; omega
 | [a],_=>simp only [acc,List.foldl_cons,List.foldl_nil]; omega
 | [a,b],_=>simp only [acc,List.foldl_cons,List.foldl_nil]; omega
 | [a,b,c],_=>simp only [acc,List.foldl_cons,List.foldl_nil]; omega
theorem or_shift (a y:Nat) (ha:a<16777216) (hy:y<64):bits BinOp.or IntKind.i64 ((a:Int) * 64) ((y:Nat):Int)=((a * 64+y:Nat):Int):=by
 have e:(a:Int) * 64=((a * 64:Nat):Int):=by omega
 rw [e]
 have h1:(BitVec.ofInt 64 ((a * 64:Nat):Int)).toNat=a * 64:=by
  rw [BitVec.ofInt_natCast,BitVec.toNat_ofNat]; exact Nat.mod_eq_of_lt (by omega)
 have h2:(BitVec.ofInt 64 ((y:Nat):Int)).toNat=y:=by
  rw [BitVec.ofInt_natCast,BitVec.toNat_ofNat]; exact Nat.mod_eq_of_lt (by omega)
 show IntKind.i64.wrap ((BitVec.ofInt 64 ((a * 64:Nat):Int) ||| BitVec.ofInt 64 ((y:Nat):Int)).toNat:Int)=_
 rw [BitVec.toNat_or,h1,h2,IntKind.wrap_i64]
 have h3:a * 64 ||| y=a * 64+y:=by
  have:=Nat.shiftLeft_add_eq_or_of_lt (i:=6) (b:=y) (by omega) a
  rw [Nat.shiftLeft_eq] at this
  exact this.symm
 rw [h3]
 omega
theorem sub_at (s:ByteArray) (k n:Nat) (hn : 1≤n) (h:k+n≤s.size):∃ u:ByteArray,u.size=n - 1∧u.data.toList=(s.data.toList.drop (k+1)).take (n - 1) ∧
  ∀ W:World,(Instr.slice 9 (.string s) (some (.int .i64 ((k:Int)+1))) (some (.int .i64 ((k:Int)+(n:Int)))) none).run Tryz.prog W=.ok (.string u) W:=by
 refine ⟨s.extract (k+1) (k+n),by rw [ByteArray.size_extract]; omega,?_,fun W=>?_⟩
 ·have:=Go.Lib.extract_data s (k+1) (k+n)
  rw [this]
  congr 1
  omega
 ·rw [run_slice_string W 9 s .i64 .i64 _ _ Tryz.underlying9 (by omega) (by omega) (by omega)]
  congr 3
theorem form_eq (m:Nat) (t:List UInt8) (k lo hi:Nat) (h:k - 1≤t.length) (e:Bool) (he:(((t.take (k - 1)).all cont && inB lo hi (-1) (acc m (t.take (k - 1)):Nat)) && !halfB (acc m (t.take (k - 1)):Nat))=e) :
  form m t k lo hi=if e then (acc m (t.take (k - 1)),k) else (65533,1):=by
 unfold form fits
 subst he
 have e2:inB lo hi (-1) (acc m (t.take (k - 1)):Nat)=(decide (lo≤acc m (t.take (k - 1))) && decide (acc m (t.take (k - 1))≤hi)):=by
  unfold inB
  rw [show decide ((acc m (t.take (k - 1)):Nat)≠(-1:Int))=true from by rw [decide_eq_true_eq]; omega,Bool.and_true]
  congr 1 <;> rw [decide_eq_decide] <;> omega
 have e3:halfB (acc m (t.take (k - 1)):Nat)=(decide (55296≤acc m (t.take (k - 1))) && decide (acc m (t.take (k - 1))≤57343)):=by
  unfold halfB
  congr 1 <;> rw [decide_eq_decide] <;> omega
 rw [e2,e3,show decide (k - 1≤t.length)=true from by simpa using h,Bool.true_and,Bool.and_assoc,Bool.and_assoc]
theorem form_short (m:Nat) (t:List UInt8) (k lo hi:Nat) (h:t.length<k - 1):form m t k lo hi=(65533,1):=by
 unfold form fits
 rw [show decide (k - 1≤t.length)=false from by simp; omega,Bool.false_and,if_neg (by simp)]
end Go.Proofs.YtlfpfkallgkjdaaGreat.Ut


