/- The document's Encode: the walk (printed by gen_cur.py). -/
import Derived.Test.YtceekocfmbcobaaPkCursorFollowsRow32
import Derived.Test.YtceekocfmbcobaaGrowSPk
import Derived.Test.YtceekocfmbcobaaPkCursorFollowsRow14
section
namespace Go.Proofs.Ytceekocfmbcobaa.Cu
open Go.RowKit Go.Proofs.Ytceekocfmbcobaa Go.Proofs.Ytceekocfmbcobaa.Cr Go.Proofs.Ytceekocfmbcobaa.Qp Go.Proofs.Ytceekocfmbcobaa.Qy Go.Proofs.Ytceekocfmbcobaa.Ph
set_option maxRecDepth 100000
set_option linter.unusedSimpArgs false

section
variable {P : Program} {o : Oper} {a : Act} {w : World} {R : Value → World → Prop}
/-- An append to a row of the call's own, inside a region that draws its order. -/
theorem give_append (s x : Operand) (t : TypeId) (ho : o.op = .call { callee := .builtin .append, args := #[s, x], argTypes := #[t, t] })
    (base : Nat) (e : TypeId) (i : TypeInfo) (z : Value) (size bytes : Nat) (ht : P.underlying t = some (.slice e)) (hi : P.info? e = some i) (hz : i.zero = some z)
    (hsize : i.size = size) (hby : i.bytes = bytes) (hzs : z.cells.size = size) (hsz : 0 < size)
    (v : Value) (n : Nat) (xs : List Value) (hs : a.eval s = v) (hown : w.ownsRow base e size v n xs)
    (ad : Addr) (m c : Nat) (news : List Value) (hx : a.eval x = .slice (some ad) m c) (hl : news.length = m * size) (hnews : ∀ j u, news[j]? = some u → w.cell? (ad.add j) = some u) (h1 : ∀ u ∈ news, u.oneCell' = true)
    (h63 : n + m ≤ maxLen) (hbytes : (n + m) * bytes ≤ 140737488355328) (hbase : base ≤ w.heap.size)
    (h : ∀ v' w', w'.ownsRow base e size v' (n + m) (xs ++ news) → w.grownBy w' v.ownBlock → R v' w') : growUpon P Tr w R ((execOp a.eval o).run P w) := by
  obtain ⟨v', w', hr, h2, h3, _⟩ := run_append_own (P := P) w base t o.type e i z size bytes ht hi hz hsize hby hzs hsz v n xs hown ad m c news hl hnews h1 h63 hbytes hbase
  unfold execOp
  simp only [ho, resolve, invoke, builtin, Sem.run_bind, Sem.run_pure, Result.andThen_ok, List.map_toArray, List.map_cons, List.map_nil, hs, hx, hr]
  exact ⟨trivial, h v' w' h2 h3⟩
theorem give_append_string (sl x : Operand) (t u : TypeId) (ho : o.op = .call { callee := .builtin .append, args := #[sl, x], argTypes := #[t, u] })
    (base : Nat) (e : TypeId) (i : TypeInfo) (ht : P.underlying t = some (.slice e)) (hu : P.underlying u = some .string) (hi : P.info? e = some i) (hz : i.zero = some (.int .u8 0))
    (hsize : i.size = 1) (hby : i.bytes = 1)
    (v : Value) (n : Nat) (xs : List Value) (hs : a.eval sl = v) (hown : w.ownsRow base e 1 v n xs) (s : ByteArray) (hx : a.eval x = .string s)
    (h63 : n + s.size ≤ maxLen) (hbytes : n + s.size ≤ 140737488355328) (hbase : base ≤ w.heap.size)
    (h : ∀ v' w', w'.ownsRow base e 1 v' (n + s.size) (xs ++ Lib.strCells s) → w.grownBy w' v.ownBlock → R v' w') : growUpon P Tr w R ((execOp a.eval o).run P w) := by
  obtain ⟨v', w', hr, h2, h3, _⟩ := Lib.run_append_own_string (P := P) w base t u o.type e i ht hu hi hz hsize hby v n xs hown s h63 hbytes hbase
  unfold execOp
  simp only [ho, resolve, invoke, builtin, Sem.run_bind, Sem.run_pure, Result.andThen_ok, List.map_toArray, List.map_cons, List.map_nil, hs, hx, hr]
  exact ⟨trivial, h v' w' h2 h3⟩
end
/-- A row's cells, as an append's source. -/
theorem own_news {w : World} {base : Nat} {e : TypeId} {g n c : Nat} {L : List UInt8} (h : w.ownsRow base e 1 (.slice (some ⟨g, 0, none⟩) n c) n (bv L)) : ∀ j u, (bv L)[j]? = some u → w.cell? ((⟨g, 0, none⟩ : Addr).add j) = some u := h.cells rfl
theorem bv_one (L : List UInt8) : ∀ u ∈ bv L, u.oneCell' = true := by
  intro u hu
  obtain ⟨c, _, rfl⟩ := List.mem_map.1 hu
  rfl
/-- A number's bytes beside a cursor's. -/
structure Two (w wx : World) (a : Int) (q : ByteArray) (v : Value) (M : List UInt8) (x : Value) (N : List UInt8) : Prop where
  enc : Enc w wx a q v M
  row : wx.ownsRow (w.heap.size + 1) 5 1 x N.length (bv N)

set_option maxHeartbeats 6400000 in
theorem rencode_yes (a : Nat) (q : ByteArray) (w : World) (h : IsC (a : Int) q) : Calls Try.prog 22 #[.agg #[.int .i64 (a : Int), .string q]] w (BytesTo w (enc a q.data.toList) 0) := by
  obtain ⟨i0, hi0, hz0, hz1, hz2⟩ := info_parts u8_info
  have hb0 := (Below.refl w.heap.size w).alloc (Nat.le_refl _) (.cells #[.int .i64 (a : Int), .string q] 45)
  have hB0 := Blk.new w 45 #[.int .i64 (a : Int), .string q]
  have hz0' : (w.alloc (.cells #[.int .i64 (a : Int), .string q] 45)).heap.size = w.heap.size + 1 := by simp
  have c1 := is_any (a : Int) q (w.alloc (.cells #[.int .i64 (a : Int), .string q] 45))
  rw [mayB_yes h] at c1
  have hq := h.short
  have ha : (a : Int) ≤ 1099511627776 := h.2.1
  have Hb0 := Lib.hid hb0
  have HB0 := Lib.hid hB0
  have Hz0 := Lib.hid hz0'
  clear hb0 hB0 hz0' h
  go_enter Try.func22, Try.ntmps22
  go_wp2_with fail
  refine c1.mono ?_
  rintro e w1 ⟨rfl, hb1⟩
  have hsz1 : w.heap.size + 1 ≤ w1.heap.size := by have := hb1.size; have := Hz0.out; omega
  have hE1 : Enc w (w1.alloc (.cells #[.int .u8 76, .int .u8 67, .int .u8 1] 5)) (a : Int) q (.slice (some ⟨w1.heap.size, 0, none⟩) 3 3) ([76, 67, 1] : List UInt8) := by
    refine ⟨(HB0.out.below hb1 (by rw [Hz0.out]; omega)).alloc _, ?_, (Hb0.out.trans (hb1.mono (by rw [Hz0.out]; omega))).alloc (by omega) _⟩
    have := World.ownsRow_lit (base := w.heap.size + 1) (e := 5) (size := 1) w1 #[.int .u8 76, .int .u8 67, .int .u8 1] 3 hsz1 (by unfold maxLen; omega) rfl
    exact this
  have HE1 := Lib.hid hE1
  have hd0 := hE1.box.cell 0
  have hd1 := hE1.box.cell 1
  have hbl := hE1.box.lt
  simp at hd0 hd1
  clear c1 hb1 HB0 Hb0 Hz0 hE1
  go_wp2_with fail
  generalize hw2 : w1.alloc (.cells #[.int .u8 76, .int .u8 67, .int .u8 1] 5) = w2 at *
  clear hw2
  have c2 := bytes_any a 8 w2 (by omega) (by omega)
  refine c2.mono ?_
  rintro e w3 ⟨v3, rfl, hown3, hb3⟩
  have H3 := Lib.hid (HE1.out.below hb3)
  have hbl3 := H3.out.box.lt
  rw [be_len] at hown3
  obtain ⟨g3, q3, rfl⟩ := Joins.ownsRow_form hown3 (by omega)
  have Hown3 := Lib.hid hown3
  clear c2 hb3 hown3 HE1 hd0 hd1
  go_wp2_with (at_builtin; refine wpList_append_own _ rfl _ _ 41 rfl (w.heap.size + 1) 5 i0 _ 1 1 Try.underlying41 hi0 hz0 hz1 hz2 rfl (by decide) _ 3 _ rfl H3.out.own ⟨g3, 0, none⟩ 8 q3 (bv (be 8 a)) rfl (by rw [bv_len, be_len]) (own_news Hown3.out) (bv_one _) ?d3 ?d4 ?d5 ?_)
  case d3 => unfold maxLen; omega
  case d4 => omega
  case d5 => omega
  intro v4 w4 hown4 hg4 _
  have H4 := Lib.hid (H3.out.put (N := be 8 a) (be_len 8 a) hown4 hg4)
  clear hown4 hg4 Hown3 H3
  have hln : ([76, 67, 1] ++ be 8 a : List UInt8).length = 11 := by rw [List.length_append, be_len]; rfl
  have hpre : pre a q.data.toList = ([76, 67, 1] ++ be 8 a) ++ be 2 q.size ++ q.data.toList := by
    unfold pre; rw [bsize]
  have Hpre := Lib.hid hpre
  have Henc : Hid (enc a q.data.toList = pre a q.data.toList ++ le4 (crc (pre a q.data.toList))) := Lib.hid rfl
  clear hpre
  generalize ([76, 67, 1] ++ be 8 a : List UInt8) = M at *
  have Hln := Lib.hid hln
  clear hln
  go_upto_region 4 with (fail)
  refine wp_region_ph_tail 9 (specOf [(4, ⟨Value, fun x => x, fun x wx => Two w wx (a : Int) q v4 M x (be 2 q.size)⟩), (5, ⟨Value, fun x => x, fun x wx => Enc w wx (a : Int) q x (M ++ be 2 q.size)⟩), (8, ⟨Value, fun x => x, fun x wx => Enc w wx (a : Int) q x (M ++ be 2 q.size ++ q.data.toList)⟩)])
    (fun wx => Blk wx w.heap.size 45 #[.int .i64 (a : Int), .string q]) (fun wx => Enc w wx (a : Int) q v4 M) (by kernel_rfl) (by kernel_rfl) (turns_of (by kernel_rfl)) H4.out.box ⟨H4.out.box, H4.out.own, H4.out.bel.drew⟩ ?_
  refine ph_fix 1 ?_ rfl (by rfl) (by rfl) (fun wx hC => ?_) ?_
  rotate_left
  · have h0 := hC.cell 0; have h1 := hC.cell 1; simp at h0 h1
    go_simp
    all_goals with_reducible rfl
  try simp only [Act.put, List.setIfInBounds_toArray, List.set_cons_zero, List.set_cons_succ]
  refine ph_fix 2 ?_ rfl (by rfl) (by rfl) (fun wx hC => ?_) ?_
  rotate_left
  · have h0 := hC.cell 0; have h1 := hC.cell 1; simp at h0 h1
    go_simp
    all_goals with_reducible rfl
  try simp only [Act.put, List.setIfInBounds_toArray, List.set_cons_zero, List.set_cons_succ]
  refine ph_fix 3 ?_ rfl (by rfl) (by rfl) (fun wx hC => ?_) ?_
  rotate_left
  · have h0 := hC.cell 0; have h1 := hC.cell 1; simp at h0 h1
    go_simp
    all_goals with_reducible rfl
  try simp only [Act.put, List.setIfInBounds_toArray, List.set_cons_zero, List.set_cons_succ]
  refine ph_fix 4 ?_ rfl (by rfl) (by rfl) (fun wx hC => ?_) ?_
  rotate_left
  · have h0 := hC.cell 0; have h1 := hC.cell 1; simp at h0 h1
    go_simp
    all_goals with_reducible rfl
  try simp only [Act.put, List.setIfInBounds_toArray, List.set_cons_zero, List.set_cons_succ]
  refine ph_give 5 _ rfl (by rfl) (by rfl) (fun wx hC hI => ?_) (fun x => ?_)
  · refine give_enter (f := ?_) (args := ?_) ?_ ?_
    rotate_left 2
    · have h0 := hC.cell 0; have h1 := hC.cell 1; simp at h0 h1
      go_simp
      all_goals first | with_reducible rfl | (refine ⟨?_, ?_⟩ <;> with_reducible rfl)
    refine (bytes_any q.size 2 wx (by omega) (by omega)).mono ?_
    rintro e w9 ⟨v9, rfl, hown9, hb9⟩
    exact ⟨_, rfl, trivial, hC.below hb9 hC.lt, v9, rfl, hI.below hb9, Joins.ownsRow_le hown9 hC.lt⟩
  rename Value => x4
  try simp only [Act.put, List.setIfInBounds_toArray, List.set_cons_zero, List.set_cons_succ]
  refine ph_give 6 _ rfl (by rfl) (by rfl) (fun wx hC hI => ?_) (fun x => ?_)
  · have hrow := hI.row
    rw [be_len] at hrow
    obtain ⟨g9, q9, hx9⟩ := Joins.ownsRow_form hrow (by omega)
    have hx9' : x4 = .slice (some ⟨g9, 0, none⟩) 2 q9 := hx9
    subst hx9'
    refine give_append _ _ 41 rfl (w.heap.size + 1) 5 i0 _ 1 1 Try.underlying41 hi0 hz0 hz1 hz2 rfl (by decide) v4 M.length (bv M) rfl hI.enc.own ⟨g9, 0, none⟩ 2 q9 (bv (be 2 q.size)) rfl (by rw [bv_len, be_len]) (own_news hrow) (bv_one _) ?d3 ?d4 ?d5 ?_
    case d3 => unfold maxLen; have := Hln.out; omega
    case d4 => have := Hln.out; omega
    case d5 => have := hC.lt; omega
    intro v9 w9 hown9 hg9
    have hE := hI.enc.put (N := be 2 q.size) (be_len 2 _) hown9 hg9
    exact ⟨hE.box, v9, rfl, hE⟩
  rename Value => x5
  try simp only [Act.put, List.setIfInBounds_toArray, List.set_cons_zero, List.set_cons_succ]
  refine ph_fix 7 ?_ rfl (by rfl) (by rfl) (fun wx hC => ?_) ?_
  rotate_left
  · have h0 := hC.cell 0; have h1 := hC.cell 1; simp at h0 h1
    go_simp
    all_goals with_reducible rfl
  try simp only [Act.put, List.setIfInBounds_toArray, List.set_cons_zero, List.set_cons_succ]
  refine ph_fix 8 ?_ rfl (by rfl) (by rfl) (fun wx hC => ?_) ?_
  rotate_left
  · have h0 := hC.cell 0; have h1 := hC.cell 1; simp at h0 h1
    go_simp
    all_goals with_reducible rfl
  try simp only [Act.put, List.setIfInBounds_toArray, List.set_cons_zero, List.set_cons_succ]
  refine ph_give 9 _ rfl (by rfl) (by rfl) (fun wx hC hI => ?_) (fun x => ?_)
  · refine give_append_string _ _ 41 9 rfl (w.heap.size + 1) 5 i0 Try.underlying41 Try.underlying9 hi0 hz0 hz1 hz2 x5 (M ++ be 2 q.size).length (bv (M ++ be 2 q.size)) rfl hI.own q rfl ?d3 ?d4 ?d5 ?_
    case d3 => unfold maxLen; rw [List.length_append, be_len]; have := Hln.out; omega
    case d4 => rw [List.length_append, be_len]; have := Hln.out; omega
    case d5 => have := hC.lt; omega
    intro v9 w9 hown9 hg9
    have hE := hI.put (N := q.data.toList) (bsize q) hown9 hg9
    exact ⟨hE.box, v9, rfl, hE⟩
  rename Value => x8
  try simp only [Act.put, List.setIfInBounds_toArray, List.set_cons_zero, List.set_cons_succ]
  refine ph_nil (fun w7 hC hI => ?_)
  have H7 : Hid (Enc w w7 (a : Int) q x8 (pre a q.data.toList)) := Lib.hid (by rw [Hpre.out]; exact hI)
  clear hI hC H4
  have hlp : (pre a q.data.toList).length ≤ 1037 := by rw [pre_len, bsize]; omega
  generalize pre a q.data.toList = L at *
  have Hlp := Lib.hid hlp
  obtain ⟨A7, c7, rfl, hR7⟩ := own_shape H7.out.own
  have hbl7 := H7.out.box.lt
  have c9 := of_any A7 L.length c7 L w7 hR7 (by omega)
  clear hR7 hlp
  go_wp2_with fail
  refine c9.mono ?_
  rintro e w9 ⟨rfl, rfl⟩
  clear c9
  have hs32 := crc_lt L
  generalize hcs : crc L = s at *
  clear hcs
  have hs0 : (0 : Int) ≤ (s : Int) := by omega
  have Hs32 := Lib.hid hs32
  clear hs32
  have hb0 := byte_1 s
  have hb1 := byte_256 s
  have hb2 : (s : Int) / 65536 % 256 = ((UInt8.ofNat (s / 65536)).toNat : Int) := by rw [u8n]; omega
  have hb3 : (s : Int) / 16777216 % 256 = ((UInt8.ofNat (s / 16777216)).toNat : Int) := by rw [u8n]; omega
  have Hle : Hid (le4 s = [UInt8.ofNat s, UInt8.ofNat (s / 256), UInt8.ofNat (s / 65536), UInt8.ofNat (s / 16777216)]) := Lib.hid rfl
  generalize UInt8.ofNat s = y0 at *
  generalize UInt8.ofNat (s / 256) = y1 at *
  generalize UInt8.ofNat (s / 65536) = y2 at *
  generalize UInt8.ofNat (s / 16777216) = y3 at *
  go_wp2_with (at_builtin; refine wpList_append_own _ rfl _ _ 41 rfl (w.heap.size + 1) 5 i0 _ 1 1 Try.underlying41 hi0 hz0 hz1 hz2 rfl (by decide) _ _ _ rfl (H7.out.own.alloc _) ⟨w7.heap.size, 0, none⟩ 4 4 (bv [y0, y1, y2, y3]) rfl rfl ?d1 ?d2 ?d3 ?d4 ?d5 ?_)
  case d1 => exact World.news_of_block (cs := #[.int .u8 (y0.toNat : Int), .int .u8 (y1.toNat : Int), .int .u8 (y2.toNat : Int), .int .u8 (y3.toNat : Int)]) (t := 5) (fr := (0, 0)) (heap_alloc_new w7 _)
  case d2 => exact bv_one _
  case d3 => unfold maxLen; have := Hlp.out; omega
  case d4 => have := Hlp.out; omega
  case d5 => simp; omega
  intro v9 w9 hown9 hg9 _
  have H9 : Hid (Enc w w9 (a : Int) q v9 (L ++ [y0, y1, y2, y3])) := Lib.hid ((H7.out.alloc _).put (N := [y0, y1, y2, y3]) rfl hown9 hg9)
  rw [← Hle.out, ← Henc.out] at H9
  clear hown9 hg9 H7
  go_wp2
  go_ret2
  exact ⟨⟨_, rfl, Joins.ownsRow_le H9.out.own (by omega)⟩, H9.out.bel⟩
end Go.Proofs.Ytceekocfmbcobaa.Cu
end

section
/- cursor.Follow: the walk (printed by gen_cus.py). -/
namespace Go.Proofs.Ytceekocfmbcobaa.Cu
open Go.RowKit Go.Proofs.Ytceekocfmbcobaa Go.Proofs.Ytceekocfmbcobaa.Qy Go.Proofs.Ytceekocfmbcobaa.Ph
set_option maxRecDepth 100000
set_option linter.unusedSimpArgs false

theorem fol_start (w : World) (a : Int) (q : ByteArray) : Fol w ((w.alloc (.cells #[.int .i64 a, .string q] 45)).alloc (.cells #[.int .i64 0, .string ⟨#[]⟩] 45)) a q (.slice none 0 0) [] := by
  have hz : (w.alloc (.cells #[.int .i64 a, .string q] 45)).heap.size = w.heap.size + 1 := by simp
  have h2 := Blk.new (w.alloc (.cells #[.int .i64 a, .string q] 45)) 45 #[.int .i64 0, .string ⟨#[]⟩]
  rw [hz] at h2
  have h1 := (Blk.new w 45 #[.int .i64 a, .string q]).alloc (.cells #[.int .i64 0, .string ⟨#[]⟩] 45)
  have hb := ((Below.refl w.heap.size w).alloc (Nat.le_refl _) (.cells #[.int .i64 a, .string q] 45)).alloc (by simp) (.cells #[.int .i64 0, .string ⟨#[]⟩] 45)
  exact ⟨h1, h2, (DocsOwn.start w).below hb⟩

set_option maxHeartbeats 6400000 in
theorem follow_any (a k l : Int) (q : ByteArray) (A : Option Addr) (n c : Nat) (ds : List Dc) (w : World) (hD : DocsAt w w.heap.size A n ds) (hn : n ≤ 1048576) :
    Calls Try.prog 27 #[.agg #[.int .i64 a, .string q], .int .i64 k, .int .i64 l, .slice A n c] w (FolTo w (folP a k l ds) q) := by
  obtain ⟨i0, hi0, hz0, hz1, hz2⟩ := info_parts doc_info
  have HF0 := Lib.hid (fol_start w a q)
  have HD := Lib.hid hD
  have Hl := Lib.hid hD.ln
  clear hD
  by_cases hl : l < 1
  · have Hfin := Lib.hid (fol_none (a := a) (k := k) ds hl)
    go_enter Try.func27, Try.ntmps27
    go_upto_region 2 with (fail)
    generalize hw2 : (w.alloc (.cells #[.int .i64 a, .string q] 45)).alloc (.cells #[.int .i64 0, .string ⟨#[]⟩] 45) = w2 at *
    clear hw2
    have hb0 := HF0.out.box.cell 0
    have hb1 := HF0.out.box.cell 1
    have hr0 := HF0.out.res.cell 0
    have hr1 := HF0.out.res.cell 1
    have hf0 := HF0.out.res.frozen 0
    have hf1 := HF0.out.res.frozen 1
    simp at hb0 hb1 hr0 hr1
    have HD := Lib.hid HF0.out.done
    refine wp_region_ph_tail 2 (specOf []) (fun wx => wx = w2.drew) (fun _ => True) (by kernel_rfl) (by kernel_rfl) (turns_of (by kernel_rfl)) rfl trivial ?_
    refine ph_fix 1 ?_ rfl (by rfl) (by rfl) (fun wx hC => ?_) ?_
    rotate_left
    · subst hC
      go_simp
      all_goals with_reducible rfl
    try simp only [Act.put, List.setIfInBounds_toArray, List.set_cons_zero, List.set_cons_succ]
    refine ph_fix 2 ?_ rfl (by rfl) (by rfl) (fun wx hC => ?_) ?_
    rotate_left
    · subst hC
      go_simp
      all_goals with_reducible rfl
    try simp only [Act.put, List.setIfInBounds_toArray, List.set_cons_zero, List.set_cons_succ]
    refine ph_nil (fun w9 hC hI => ?_)
    subst hC
    clear hI
    go_wp2
    exact bodyPost_ret (fol_results rfl rfl rfl HD.out.1) rfl (by rw [Hfin.out]; exact ⟨_, rfl, HD.out.2⟩)
  have hl1 : 1 ≤ l := by omega
  go_enter Try.func27, Try.ntmps27
  go_wp2_with fail
  generalize hw2 : (w.alloc (.cells #[.int .i64 a, .string q] 45)).alloc (.cells #[.int .i64 0, .string ⟨#[]⟩] 45) = w2 at *
  clear hw2
  go_loopw [10, 11, 21] (fun v m i wr => ∃ j : Nat, j ≤ n ∧ i = .int .i64 (j : Int) ∧ m = .int .i64 (lastP a (sel a k (ds.take j))) ∧ ((sel a k (ds.take j)).length : Int) < l ∧ Fol w wr a q v (sel a k (ds.take j))) (fun _ _ i _ => n - (intOf i).toNat)
  case atStart => exact ⟨0, Nat.zero_le _, rfl, rfl, by simp [sel]; omega, by simpa [sel] using HF0.out⟩
  case round =>
    obtain ⟨j, hj, rfl, rfl, hlen, hF⟩ := hrel
    have hsl : (sel a k (ds.take j)).length ≤ 1048576 := Nat.le_trans (sel_len ..) (by rw [List.length_take, Hl.out]; omega)
    have hb0 := hF.box.cell 0
    have hb1 := hF.box.cell 1
    have hbl := hF.box.lt
    simp at hb0 hb1
    by_cases hlt : j < n
    · have hjl : j < ds.length := by rw [Hl.out]; exact hlt
      obtain ⟨b, o, F, fn, fc, rfl, hbb, hc0, hc1, hc2, hR, hfl, hfn, hff, hfnil⟩ := HD.out.at_ hjl
      have hc0 := (hF.own.bel.cell (p := ⟨b, o + j * 3, none⟩) hbb).trans hc0
      have hc1 := (hF.own.bel.cell (p := ⟨b, o + j * 3 + 1, none⟩) hbb).trans hc1
      have hc2 := (hF.own.bel.cell (p := ⟨b, o + j * 3 + 2, none⟩) hbb).trans hc2
      have Hyes := Lib.hid (sel_yes a k ds j hjl)
      have Hno := Lib.hid (sel_no a k ds j hjl)
      have Hstop := Lib.hid (fol_stop (a := a) (k := k) (l := l) (ds := ds) (j + 1) (by omega))
      have hDc : DcV w w.heap.size ds[j] [.int .i64 ds[j].seq, .int .i64 ds[j].at_, .slice F fn fc] := ⟨F, fn, fc, rfl, hR, hfl, hfn, hff, hfnil⟩
      have HDc := Lib.hid hDc
      clear hR hfl hDc
      generalize hdj : ds[j] = d at *
      clear hdj
      obtain ⟨s, at_, fs⟩ := d
      dsimp only at hc0 hc1 HDc Hyes Hno
      have HF := Lib.hid (hF.alloc (.cells #[.int .i64 s, .int .i64 at_, .slice F fn fc] 71))
      have Hdp := Lib.hid (Blk.new wr 71 #[.int .i64 s, .int .i64 at_, .slice F fn fc])
      have Hrow : Hid (some wr.heap.size ≠ u10.ownBlock) := Lib.hid (fun e => by
        obtain ⟨vss, _, g2, _⟩ := hF.own.ex
        have := (g2.lt _ e.symm).2
        omega)
      have hb0w := (World.cell?_alloc_lt wr (.cells #[.int .i64 s, .int .i64 at_, .slice F fn fc] 71) ⟨w.heap.size, 0, none⟩ hbl).trans hb0
      clear hF
      by_cases h1 : a < s
      · by_cases h2 : s ≤ k
        · have h1' : ¬ s ≤ a := by omega
          have h2' : ¬ k < s := by omega
          go_upto_region 9 with (fail)
          generalize hwd : wr.alloc (.cells #[.int .i64 s, .int .i64 at_, .slice F fn fc] 71) = wd at *
          clear hwd
          generalize hdp : wr.heap.size = dp at *
          clear hdp
          generalize hm : lastP a (sel a k (ds.take j)) = m at *
          have Hm := Lib.hid hm
          have Hlst : Hid (lastP a (sel a k (ds.take (j + 1))) = max m s) := Lib.hid (by rw [Hyes.out h1 h2, lastP_snoc, hm])
          have Hys : Hid (sel a k (ds.take (j + 1)) = sel a k (ds.take j) ++ [⟨s, at_, fs⟩]) := Lib.hid (Hyes.out h1 h2)
          clear hm
          generalize sel a k (ds.take j) = out at *
          refine wp_region_ph_tail 9 (specOf [(2, ⟨Nat, fun x => .slice (some ⟨x, 0, none⟩) 1 1, fun x wx => Fol w wx a q u10 out ∧ Blk wx x 71 #[.int .i64 s, .int .i64 at_, .slice F fn fc]⟩), (3, ⟨Value, fun x => x, fun x wx => Fol w wx a q x (out ++ [⟨s, at_, fs⟩])⟩)])
            (fun wx => Blk wx dp 71 #[.int .i64 s, .int .i64 at_, .slice F fn fc]) (fun wx => Fol w wx a q u10 out) (by kernel_rfl) (by kernel_rfl) (turns_of (by kernel_rfl)) Hdp.out.drew HF.out.drew ?_
          refine ph_fix 1 ?_ rfl (by rfl) (by rfl) (fun wx hC => ?_) ?_
          rotate_left
          · have g0 := hC.cell 0; have g1 := hC.cell 1; have g2 := hC.cell 2; simp at g0 g1 g2
            go_simp
            all_goals with_reducible rfl
          try simp only [Act.put, List.setIfInBounds_toArray, List.set_cons_zero, List.set_cons_succ]
          refine ph_fix 2 ?_ rfl (by rfl) (by rfl) (fun wx hC => ?_) ?_
          rotate_left
          · have g0 := hC.cell 0; have g1 := hC.cell 1; have g2 := hC.cell 2; simp at g0 g1 g2
            go_simp
            all_goals with_reducible rfl
          try simp only [Act.put, List.setIfInBounds_toArray, List.set_cons_zero, List.set_cons_succ]
          refine ph_give 3 _ rfl (by rfl) (by rfl) (fun wx hC hI => ?_) (fun x => ?_)
          · refine give_value (u := ?_) (w' := ?_) ?_ trivial ?_
            rotate_left 2
            · go_simp
              all_goals first | with_reducible rfl | (refine ⟨?_, ?_⟩ <;> with_reducible rfl)
            exact ⟨hC.alloc _, wx.heap.size, rfl, hI.alloc _, Blk.new wx _ _⟩
          rename Nat => x2
          try simp only [Act.put, List.setIfInBounds_toArray, List.set_cons_zero, List.set_cons_succ]
          refine ph_give 4 _ rfl (by rfl) (by rfl) (fun wx hC hI => ?_) (fun x => ?_)
          · obtain ⟨hFx, hBx⟩ := hI
            obtain ⟨vss, g1, g2, g3⟩ := hFx.own.ex
            refine give_append _ _ 59 rfl w.heap.size 71 i0 _ 3 40 Try.underlying59 hi0 hz0 hz1 hz2 rfl (by decide) u10 out.length vss.flatten rfl g2 ⟨x2, 0, none⟩ 1 1 [.int .i64 s, .int .i64 at_, .slice F fn fc] rfl rfl ?d1 ?d2 ?d3 ?d4 ?d5 ?_
            case d1 => exact World.news_of_block (cs := #[.int .i64 s, .int .i64 at_, .slice F fn fc]) (t := 71) (fr := (0, 0)) hBx
            case d2 => intro u hu; simp at hu; rcases hu with rfl | rfl | rfl <;> rfl
            case d3 => unfold maxLen; omega
            case d4 => omega
            case d5 => have := hFx.box.lt; omega
            intro v9 w9 hown9 hg9
            have hDx : DcV wx wx.heap.size ⟨s, at_, fs⟩ [.int .i64 s, .int .i64 at_, .slice F fn fc] := (HDc.out.keep fun _ _ hp => hFx.own.bel.cell hp).more hFx.own.bel.size
            have hFar : Far wx w.heap.size [.int .i64 s, .int .i64 at_, .slice F fn fc] := by
              intro F' fn' fc' hv hn'
              simp only [List.getElem?_cons_succ, List.getElem?_cons_zero, Option.some.injEq, Value.slice.injEq] at hv
              obtain ⟨rfl, rfl, rfl⟩ := hv
              obtain ⟨F2, fn2, fc2, e2, hR2, _⟩ := HDc.out
              simp only [List.cons.injEq, Value.slice.injEq, and_true, true_and] at e2
              obtain ⟨rfl, rfl, rfl⟩ := e2
              obtain ⟨b', o', eF, hlt', _⟩ := hR2.2 hn'
              exact ⟨b', o', eF, .inl hlt'⟩
            have hE := hFx.put ⟨vss, g1, g2, g3, rfl⟩ hown9 hg9 hDx hFar
            exact ⟨hC.grown hg9 Hrow.out, v9, rfl, hE⟩
          rename Value => x3
          try simp only [Act.put, List.setIfInBounds_toArray, List.set_cons_zero, List.set_cons_succ]
          refine ph_fix 5 ?_ rfl (by rfl) (by rfl) (fun wx hC => ?_) ?_
          rotate_left
          · have g0 := hC.cell 0; have g1 := hC.cell 1; have g2 := hC.cell 2; simp at g0 g1 g2
            go_simp
            all_goals with_reducible rfl
          try simp only [Act.put, List.setIfInBounds_toArray, List.set_cons_zero, List.set_cons_succ]
          refine ph_fix 6 ?_ rfl (by rfl) (by rfl) (fun wx hC => ?_) ?_
          rotate_left
          · have g0 := hC.cell 0; have g1 := hC.cell 1; have g2 := hC.cell 2; simp at g0 g1 g2
            go_simp
            all_goals with_reducible rfl
          try simp only [Act.put, List.setIfInBounds_toArray, List.set_cons_zero, List.set_cons_succ]
          refine ph_fix 7 ?_ rfl (by rfl) (by rfl) (fun wx hC => ?_) ?_
          rotate_left
          · have g0 := hC.cell 0; have g1 := hC.cell 1; have g2 := hC.cell 2; simp at g0 g1 g2
            go_simp
            all_goals with_reducible rfl
          try simp only [Act.put, List.setIfInBounds_toArray, List.set_cons_zero, List.set_cons_succ]
          refine ph_fix 8 ?_ rfl (by rfl) (by rfl) (fun wx hC => ?_) ?_
          rotate_left
          · have g0 := hC.cell 0; have g1 := hC.cell 1; have g2 := hC.cell 2; simp at g0 g1 g2
            go_simp
            all_goals with_reducible rfl
          try simp only [Act.put, List.setIfInBounds_toArray, List.set_cons_zero, List.set_cons_succ]
          refine ph_fix 9 ?_ rfl (by rfl) (by rfl) (fun wx hC => ?_) ?_
          rotate_left
          · have g0 := hC.cell 0; have g1 := hC.cell 1; have g2 := hC.cell 2; simp at g0 g1 g2
            go_simp
            all_goals with_reducible rfl
          try simp only [Act.put, List.setIfInBounds_toArray, List.set_cons_zero, List.set_cons_succ]
          refine ph_nil (fun w6 hC hI => ?_)
          obtain ⟨A6, c6, hx6, _⟩ := hI.own.read
          have hx6' : x3 = .slice A6 (out ++ [(⟨s, at_, fs⟩ : Dc)]).length c6 := hx6
          subst hx6'
          have HI := Lib.hid hI
          have hl2 : (out ++ [(⟨s, at_, fs⟩ : Dc)]).length = out.length + 1 := by simp
          have Hl2 := Lib.hid hl2
          clear hI hC hx6 Hno Hyes HF Hdp hb0w hb0 hb1 hc0 hc1 hc2 hl2
          generalize (out ++ [(⟨s, at_, fs⟩ : Dc)]) = out2 at *
          rw [Hys.out] at Hlst Hstop
          have Hlst2 : Hid (lastP a out2 = max m s) := Hlst
          have gb0 := HI.out.box.cell 0
          have gf0 := HI.out.box.frozen 0
          simp at gb0
          by_cases he : (out2.length : Int) = l
          · have Hfin : Hid (folP a k l ds = (out2, max m s)) := Lib.hid (by rw [Hstop.out he, Hlst2.out])
            have hbe : ((out2.length : Int) == l) = true := by rw [he]; simp
            clear he
            go_upto_region 12 with (fail)
            have H7 := Lib.hid (HI.out.after (max m s))
            clear HI
            generalize hw7 : w6.setCell ⟨w.heap.size, 0, none⟩ (.int .i64 (max m s)) = w7 at *
            clear hw7
            have hb0 := H7.out.box.cell 0
            have hb1 := H7.out.box.cell 1
            have hr0 := H7.out.res.cell 0
            have hr1 := H7.out.res.cell 1
            have hf0 := H7.out.res.frozen 0
            have hf1 := H7.out.res.frozen 1
            simp at hb0 hb1 hr0 hr1
            have HD := Lib.hid H7.out.done
            refine wp_region_ph_tail 3 (specOf []) (fun wx => wx = w7.drew) (fun _ => True) (by kernel_rfl) (by kernel_rfl) (turns_of (by kernel_rfl)) rfl trivial ?_
            refine ph_fix 1 ?_ rfl (by rfl) (by rfl) (fun wx hC => ?_) ?_
            rotate_left
            · subst hC
              go_simp
              all_goals with_reducible rfl
            try simp only [Act.put, List.setIfInBounds_toArray, List.set_cons_zero, List.set_cons_succ]
            refine ph_fix 2 ?_ rfl (by rfl) (by rfl) (fun wx hC => ?_) ?_
            rotate_left
            · subst hC
              go_simp
              all_goals with_reducible rfl
            try simp only [Act.put, List.setIfInBounds_toArray, List.set_cons_zero, List.set_cons_succ]
            refine ph_fix 3 ?_ rfl (by rfl) (by rfl) (fun wx hC => ?_) ?_
            rotate_left
            · subst hC
              go_simp
              all_goals with_reducible rfl
            try simp only [Act.put, List.setIfInBounds_toArray, List.set_cons_zero, List.set_cons_succ]
            refine ph_nil (fun w9 hC hI => ?_)
            subst hC
            clear hI
            go_wp2
            exact bodyPost_ret (fol_results rfl rfl rfl HD.out.1) rfl (by rw [Hfin.out]; exact ⟨_, rfl, HD.out.2⟩)
          · have hbe : ((out2.length : Int) == l) = false := by rw [beq_eq_false_iff_ne]; exact he
            have Hlt2 : Hid ((out2.length : Int) < l) := Lib.hid (by have := Hl2.out; omega)
            clear he
            go_wp2
            go_roundw
            case rel => exact ⟨j + 1, by omega, by go_num, by rw [Hys.out, Hlst2.out], by rw [Hys.out]; exact Hlt2.out, by rw [Hys.out]; exact HI.out⟩
            case measure => simp [intOf]; omega
        · have h1' : ¬ s ≤ a := by omega
          have h2' : k < s := by omega
          have Hsn : Hid (sel a k (ds.take (j + 1)) = sel a k (ds.take j)) := Lib.hid (Hno.out (fun h => h2 h.2))
          have Hlen := Lib.hid hlen
          clear Hyes Hno h2 hlen
          go_wp2
          go_roundw
          case rel => exact ⟨j + 1, by omega, by go_num, by rw [Hsn.out], by rw [Hsn.out]; exact Hlen.out, by rw [Hsn.out]; exact HF.out⟩
          case measure => simp [intOf]; omega
      · have h1' : s ≤ a := by omega
        have Hsn : Hid (sel a k (ds.take (j + 1)) = sel a k (ds.take j)) := Lib.hid (Hno.out (fun h => h1 h.1))
        have Hlen := Lib.hid hlen
        clear Hyes Hno h1 hlen
        go_wp2
        go_roundw
        case rel => exact ⟨j + 1, by omega, by go_num, by rw [Hsn.out], by rw [Hsn.out]; exact Hlen.out, by rw [Hsn.out]; exact HF.out⟩
        case measure => simp [intOf]; omega
    · have Hfin : Hid (folP a k l ds = (sel a k (ds.take j), max a k)) := Lib.hid (fol_end j (by omega) (by rw [Hl.out]; omega) hlen)
      have HF := Lib.hid hF
      have gf0 := hF.box.frozen 0
      obtain ⟨A6, c6, rfl, _⟩ := hF.own.read
      clear hF hlen
      generalize hm : lastP a (sel a k (ds.take j)) = m at *
      clear hm
      generalize sel a k (ds.take j) = out at *
      go_upto_region 15 with (fail)
      have H7 := Lib.hid (HF.out.after (max a k))
      clear HF
      generalize hw7 : wr.setCell ⟨w.heap.size, 0, none⟩ (.int .i64 (max a k)) = w7 at *
      clear hw7 hb0 hb1
      have hb0 := H7.out.box.cell 0
      have hb1 := H7.out.box.cell 1
      have hr0 := H7.out.res.cell 0
      have hr1 := H7.out.res.cell 1
      have hf0 := H7.out.res.frozen 0
      have hf1 := H7.out.res.frozen 1
      simp at hb0 hb1 hr0 hr1
      have HD := Lib.hid H7.out.done
      refine wp_region_ph_tail 3 (specOf []) (fun wx => wx = w7.drew) (fun _ => True) (by kernel_rfl) (by kernel_rfl) (turns_of (by kernel_rfl)) rfl trivial ?_
      refine ph_fix 1 ?_ rfl (by rfl) (by rfl) (fun wx hC => ?_) ?_
      rotate_left
      · subst hC
        go_simp
        all_goals with_reducible rfl
      try simp only [Act.put, List.setIfInBounds_toArray, List.set_cons_zero, List.set_cons_succ]
      refine ph_fix 2 ?_ rfl (by rfl) (by rfl) (fun wx hC => ?_) ?_
      rotate_left
      · subst hC
        go_simp
        all_goals with_reducible rfl
      try simp only [Act.put, List.setIfInBounds_toArray, List.set_cons_zero, List.set_cons_succ]
      refine ph_fix 3 ?_ rfl (by rfl) (by rfl) (fun wx hC => ?_) ?_
      rotate_left
      · subst hC
        go_simp
        all_goals with_reducible rfl
      try simp only [Act.put, List.setIfInBounds_toArray, List.set_cons_zero, List.set_cons_succ]
      refine ph_nil (fun w9 hC hI => ?_)
      subst hC
      clear hI
      go_wp2
      exact bodyPost_ret (fol_results rfl rfl rfl HD.out.1) rfl (by rw [Hfin.out]; exact ⟨_, rfl, HD.out.2⟩)
end Go.Proofs.Ytceekocfmbcobaa.Cu
end
