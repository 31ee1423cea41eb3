/- The reference's Decode. -/
import Derived.Test.YtlfpfkallgkjdaaGreatQAlertBatchesRow16
import Derived.Test.YtlfpfkallgkjdaaGreatQAlertBatchesRow0
set_option maxRecDepth 20000
namespace Go.Proofs.YtlfpfkallgkjdaaGreat.Ut
open Go.RowKit
set_option maxRecDepth 20000 in
set_option maxHeartbeats 1600000 in
theorem decr_2 (s:ByteArray) (k m:Nat) (w:World) (hk:k<s.size) (hs:s.size≤140737488351232) (hm:(s[k]).toNat=m) (h6:m / 32=6) :
  Calls Tryz.prog 168 #[.string s,.int .i64 (k:Int)] w fun e w'=>e=.returned (.tuple #[.int .i64 ((form (m % 32) (s.data.toList.drop (k+1)) 2 128 2047).1:Nat),.int .i64 ((form (m % 32) (s.data.toList.drop (k+1)) 2 128 2047).2:Nat)])∧w=w':=by
 have h0:¬ (k:Int)<0:=by omega
 have h1:¬ (s.size:Int)≤(k:Int):=by omega
 have h2:¬ (m:Int)<128:=by omega
 have h3:(m:Int) / 32=6:=by omega
 have h4:¬ (m:Int) / 16=14:=by omega
 have h5:¬ (m:Int) / 8=30:=by omega
 have c:=row_any s k (m % 32) 2 w hk hs (by omega) (by omega) (by omega)
 have hlt:=row_lt (m % 32) 32 (s.data.toList.drop (k+1)) 2 (by omega) (by omega) (by omega) (by omega)
 have hfo:=form_row (m % 32) (s.data.toList.drop (k+1)) 2 128 2047 _ _ rfl rfl
 rw [show ((m % 32:Nat):Int)=(m:Int) % 32 from by omega] at c
 generalize form (m % 32) (s.data.toList.drop (k+1)) 2 128 2047=F at *
 generalize rowOf (m % 32) (s.data.toList.drop (k+1)) 2=a at *
 generalize rowOk (s.data.toList.drop (k+1)) 2=ok at *
 clear h6
 by_cases hcase:ok=true∧128≤a
 ·obtain ⟨rfl,h128⟩:=hcase
  have hF:=hfo.1 rfl h128 (by omega) (by omega)
  subst hF
  have h129:¬ (a:Int)<128:=by omega
  clear hfo
  go_enter Tryz.func168,Tryz.ntmps168
  go_wp2_with fail
  refine c.mono ?_
  rintro e w1 ⟨rfl,rfl⟩
  go_wp2
  go_ret2
  exact ⟨rfl,rfl⟩
 ·have hF:=hfo.2 (by rcases Bool.eq_false_or_eq_true ok with h | h; (· exact Or.inr (Or.inl (by have:¬ 128≤a:=fun h'=>hcase ⟨h,h'⟩; omega))); exact Or.inl h)
  subst hF
  clear hfo
  rcases Bool.eq_false_or_eq_true ok with rfl | rfl
  ·have h129:(a:Int)<128:=by have:¬ 128≤a:=fun h'=>hcase ⟨rfl,h'⟩; omega
   clear hcase
   go_enter Tryz.func168,Tryz.ntmps168
   go_wp2_with fail
   refine c.mono ?_
   rintro e w1 ⟨rfl,rfl⟩
   go_wp2
   go_ret2
   exact ⟨rfl,rfl⟩
  ·clear hcase
   go_enter Tryz.func168,Tryz.ntmps168
   go_wp2_with fail
   refine c.mono ?_
   rintro e w1 ⟨rfl,rfl⟩
   go_wp2
   go_ret2
   exact ⟨rfl,rfl⟩
set_option maxRecDepth 20000 in
set_option maxHeartbeats 1600000 in
theorem decr_3 (s:ByteArray) (k m:Nat) (w:World) (hk:k<s.size) (hs:s.size≤140737488351232) (hm:(s[k]).toNat=m) (h6:m / 16=14) :
  Calls Tryz.prog 168 #[.string s,.int .i64 (k:Int)] w fun e w'=>e=.returned (.tuple #[.int .i64 ((form (m % 16) (s.data.toList.drop (k+1)) 3 2048 65535).1:Nat),.int .i64 ((form (m % 16) (s.data.toList.drop (k+1)) 3 2048 65535).2:Nat)])∧w=w':=by
 have h0:¬ (k:Int)<0:=by omega
 have h1:¬ (s.size:Int)≤(k:Int):=by omega
 have h2:¬ (m:Int)<128:=by omega
 have h3:¬ (m:Int) / 32=6:=by omega
 have h4:(m:Int) / 16=14:=by omega
 have h5:¬ (m:Int) / 8=30:=by omega
 have c:=row_any s k (m % 16) 3 w hk hs (by omega) (by omega) (by omega)
 have hlt:=row_lt (m % 16) 16 (s.data.toList.drop (k+1)) 3 (by omega) (by omega) (by omega) (by omega)
 have hfo:=form_row (m % 16) (s.data.toList.drop (k+1)) 3 2048 65535 _ _ rfl rfl
 rw [show ((m % 16:Nat):Int)=(m:Int) % 16 from by omega] at c
 generalize form (m % 16) (s.data.toList.drop (k+1)) 3 2048 65535=F at *
 generalize rowOf (m % 16) (s.data.toList.drop (k+1)) 3=a at *
 generalize rowOk (s.data.toList.drop (k+1)) 3=ok at *
 clear h6
 have Hlt:Hid (a≤65535):=zh (by omega)
 clear hlt
 rcases Bool.eq_false_or_eq_true ok with rfl | rfl
 ·by_cases g1 : 2048≤a
  ·have g1':¬ (a:Int)<2048:=by omega
   by_cases g2 : 55296≤a
   ·by_cases g3:a≤57343
    ·have hF:=hfo.2 (Or.inr (Or.inr (Or.inr ⟨g2,g3⟩)))
     subst hF
     have g2':¬ (a:Int)<55296:=by omega
     have g3':¬ (57343:Int)<a:=by omega
     clear hfo g1 g2 g3
     try dsimp only
     generalize (a:Int)=z at *
     go_enter Tryz.func168,Tryz.ntmps168
     go_wp2_with fail
     refine c.mono ?_
     rintro e w1 ⟨rfl,rfl⟩
     go_wp2
     go_ret2
     exact ⟨rfl,rfl⟩
    ·have hF:=hfo.1 rfl g1 Hlt.out (by omega)
     subst hF
     have g2':¬ (a:Int)<55296:=by omega
     have g3':(57343:Int)<a:=by omega
     clear hfo g1 g2 g3
     try dsimp only
     generalize (a:Int)=z at *
     go_enter Tryz.func168,Tryz.ntmps168
     go_wp2_with fail
     refine c.mono ?_
     rintro e w1 ⟨rfl,rfl⟩
     go_wp2
     go_ret2
     exact ⟨rfl,rfl⟩
   ·have hF:=hfo.1 rfl g1 Hlt.out (by omega)
    subst hF
    have g2':(a:Int)<55296:=by omega
    clear hfo g1 g2
    try dsimp only
    generalize (a:Int)=z at *
    go_enter Tryz.func168,Tryz.ntmps168
    go_wp2_with fail
    refine c.mono ?_
    rintro e w1 ⟨rfl,rfl⟩
    go_wp2
    go_ret2
    exact ⟨rfl,rfl⟩
  ·have hF:=hfo.2 (Or.inr (Or.inl (by omega)))
   subst hF
   have g1':(a:Int)<2048:=by omega
   clear hfo g1
   try dsimp only
   generalize (a:Int)=z at *
   go_enter Tryz.func168,Tryz.ntmps168
   go_wp2_with fail
   refine c.mono ?_
   rintro e w1 ⟨rfl,rfl⟩
   go_wp2
   go_ret2
   exact ⟨rfl,rfl⟩
 ·have hF:=hfo.2 (Or.inl rfl)
  subst hF
  clear hfo
  try dsimp only
  generalize (a:Int)=z at *
  go_enter Tryz.func168,Tryz.ntmps168
  go_wp2_with fail
  refine c.mono ?_
  rintro e w1 ⟨rfl,rfl⟩
  go_wp2
  go_ret2
  exact ⟨rfl,rfl⟩
set_option maxRecDepth 20000 in
set_option maxHeartbeats 1600000 in
theorem decr_4 (s:ByteArray) (k m:Nat) (w:World) (hk:k<s.size) (hs:s.size≤140737488351232) (hm:(s[k]).toNat=m) (h6:m / 8=30) :
  Calls Tryz.prog 168 #[.string s,.int .i64 (k:Int)] w fun e w'=>e=.returned (.tuple #[.int .i64 ((form (m % 8) (s.data.toList.drop (k+1)) 4 65536 1114111).1:Nat),.int .i64 ((form (m % 8) (s.data.toList.drop (k+1)) 4 65536 1114111).2:Nat)])∧w=w':=by
 have h0:¬ (k:Int)<0:=by omega
 have h1:¬ (s.size:Int)≤(k:Int):=by omega
 have h2:¬ (m:Int)<128:=by omega
 have h3:¬ (m:Int) / 32=6:=by omega
 have h4:¬ (m:Int) / 16=14:=by omega
 have h5:(m:Int) / 8=30:=by omega
 have c:=row_any s k (m % 8) 4 w hk hs (by omega) (by omega) (by omega)
 have hfo:=form_row (m % 8) (s.data.toList.drop (k+1)) 4 65536 1114111 _ _ rfl rfl
 rw [show ((m % 8:Nat):Int)=(m:Int) % 8 from by omega] at c
 generalize form (m % 8) (s.data.toList.drop (k+1)) 4 65536 1114111=F at *
 generalize rowOf (m % 8) (s.data.toList.drop (k+1)) 4=a at *
 generalize rowOk (s.data.toList.drop (k+1)) 4=ok at *
 clear h6
 rcases Bool.eq_false_or_eq_true ok with rfl | rfl
 ·by_cases g1 : 65536≤a
  ·have g1':¬ (a:Int)<65536:=by omega
   by_cases g2:a≤1114111
   ·have hF:=hfo.1 rfl g1 g2 (by omega)
    subst hF
    have g2':¬ (1114111:Int)<a:=by omega
    clear hfo g1 g2
    try dsimp only
    generalize (a:Int)=z at *
    go_enter Tryz.func168,Tryz.ntmps168
    go_wp2_with fail
    refine c.mono ?_
    rintro e w1 ⟨rfl,rfl⟩
    go_wp2
    go_ret2
    exact ⟨rfl,rfl⟩
   ·have hF:=hfo.2 (Or.inr (Or.inr (Or.inl (by omega))))
    subst hF
    have g2':(1114111:Int)<a:=by omega
    clear hfo g1 g2
    try dsimp only
    generalize (a:Int)=z at *
    go_enter Tryz.func168,Tryz.ntmps168
    go_wp2_with fail
    refine c.mono ?_
    rintro e w1 ⟨rfl,rfl⟩
    go_wp2
    go_ret2
    exact ⟨rfl,rfl⟩
  ·have hF:=hfo.2 (Or.inr (Or.inl (by omega)))
   subst hF
   have g1':(a:Int)<65536:=by omega
   clear hfo g1
   try dsimp only
   generalize (a:Int)=z at *
   go_enter Tryz.func168,Tryz.ntmps168
   go_wp2_with fail
   refine c.mono ?_
   rintro e w1 ⟨rfl,rfl⟩
   go_wp2
   go_ret2
   exact ⟨rfl,rfl⟩
 ·have hF:=hfo.2 (Or.inl rfl)
  subst hF
  clear hfo
  try dsimp only
  generalize (a:Int)=z at *
  go_enter Tryz.func168,Tryz.ntmps168
  go_wp2_with fail
  refine c.mono ?_
  rintro e w1 ⟨rfl,rfl⟩
  go_wp2
  go_ret2
  exact ⟨rfl,rfl⟩
theorem decr_out (s:ByteArray) (a:Int) (w:World) (h:a<0∨(s.size:Int)≤a) :
  Calls Tryz.prog 168 #[.string s,.int .i64 a] w fun e w'=>e=.returned (.tuple #[.int .i64 0,.int .i64 0])∧w=w':=by
 by_cases h0:a<0
 ·clear h
  go_enter Tryz.func168,Tryz.ntmps168
  go_wp2
  go_ret2
  exact ⟨rfl,rfl⟩
 ·have h1:(s.size:Int)≤a:=by omega
  clear h
  go_enter Tryz.func168,Tryz.ntmps168
  go_wp2
  go_ret2
  exact ⟨rfl,rfl⟩
theorem decr_low (s:ByteArray) (k m:Nat) (w:World) (hk:k<s.size) (hm:(s[k]).toNat=m) (h:m<128) :
  Calls Tryz.prog 168 #[.string s,.int .i64 (k:Int)] w fun e w'=>e=.returned (.tuple #[.int .i64 (m:Int),.int .i64 1])∧w=w':=by
 have h0:¬ (k:Int)<0:=by omega
 have h1:¬ (s.size:Int)≤(k:Int):=by omega
 have h2:(m:Int)<128:=by omega
 go_enter Tryz.func168,Tryz.ntmps168
 go_wp2
 go_ret2
 exact ⟨rfl,rfl⟩
theorem decr_none (s:ByteArray) (k m:Nat) (w:World) (hk:k<s.size) (hm:(s[k]).toNat=m) (h128 : 128≤m) (h256:m<256) (h6:¬ m / 32=6) (h14:¬ m / 16=14) (h30:¬ m / 8=30) :
  Calls Tryz.prog 168 #[.string s,.int .i64 (k:Int)] w fun e w'=>e=.returned (.tuple #[.int .i64 65533,.int .i64 1])∧w=w':=by
 have h0:¬ (k:Int)<0:=by omega
 have h1:¬ (s.size:Int)≤(k:Int):=by omega
 have h2:¬ (m:Int)<128:=by omega
 have h3:¬ (m:Int) / 32=6:=by omega
 have h4:¬ (m:Int) / 16=14:=by omega
 have h5:¬ (m:Int) / 8=30:=by omega
 go_enter Tryz.func168,Tryz.ntmps168
 go_wp2
 go_ret2
 exact ⟨rfl,rfl⟩
theorem decr_any (s:ByteArray) (a:Int) (w:World) (hs:s.size≤140737488351232) :
  Calls Tryz.prog 168 #[.string s,.int .i64 a] w fun e w'=>e=.returned (.tuple #[.int .i64 ((decAt s a).1:Nat),.int .i64 ((decAt s a).2:Nat)])∧w=w':=by
 by_cases h:a<0∨(s.size:Int)≤a
 ·have e:decAt s a=(0,0):=by
   unfold decAt
   by_cases h0:a<0
   ·rw [if_pos h0]
   ·rw [if_neg h0,drop_out s a.toNat (by omega)]; rfl
  rw [e]
  exact decr_out s a w h
 ·obtain ⟨k,rfl⟩:=Int.eq_ofNat_of_zero_le (show 0≤a by omega)
  have hk:k<s.size:=by omega
  have e:decAt s (k:Int)=dec (s[k] :: s.data.toList.drop (k+1)):=by
   unfold decAt
   rw [if_neg (by omega),Int.toNat_natCast,drop_cons s k hk]
  rw [e,dec_cons]
  by_cases h1:(s[k]).toNat<128
  ·rw [if_pos h1]; exact decr_low s k _ w hk rfl h1
  ·rw [if_neg h1]
   by_cases h2:(s[k]).toNat / 32=6
   ·rw [if_pos h2]; exact decr_2 s k _ w hk hs rfl h2
   ·rw [if_neg h2]
    by_cases h3:(s[k]).toNat / 16=14
    ·rw [if_pos h3]; exact decr_3 s k _ w hk hs rfl h3
    ·rw [if_neg h3]
     by_cases h4:(s[k]).toNat / 8=30
     ·rw [if_pos h4]; exact decr_4 s k _ w hk hs rfl h4
     ·rw [if_neg h4]; exact decr_none s k _ w hk rfl (by omega) (s[k]).toNat_lt h2 h3 h4
end Go.Proofs.YtlfpfkallgkjdaaGreat.Ut


