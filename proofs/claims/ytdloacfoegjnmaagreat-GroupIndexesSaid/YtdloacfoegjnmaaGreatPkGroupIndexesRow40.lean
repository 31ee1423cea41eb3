/- loggiaref30.has, words: the walks. -/
import Derived.Laws.AppendOwnNone
import Derived.Maps.AppendAt
import Derived.Test.YtdloacfoegjnmaaGreatPkGroupIndexesRow39
import Derived.Test.YtdloacfoegjnmaaGreatGrOfPk
import Derived.Test.YtdloacfoegjnmaaGreatPkGroupIndexesRow10
import Derived.Test.YtdloacfoegjnmaaGreatPkGroupIndexesRow37
import Derived.Test.YtdloacfoegjnmaaGreatGrWaPk
import Derived.Test.YtdloacfoegjnmaaGreatPkGroupIndexesRow13
section
namespace Go.Proofs.YtdloacfoegjnmaaGreat.Gr
open Go.RowKit Go.Proofs.YtdloacfoegjnmaaGreat Go.Proofs.YtdloacfoegjnmaaGreat.Ut Go.Proofs.YtdloacfoegjnmaaGreat.Tk Go.Proofs.YtdloacfoegjnmaaGreat.Qy Go.Sort Go.Shelf Go.Lib
set_option maxRecDepth 20000
set_option linter.unusedSimpArgs false
set_option linter.unusedVariables false

/-- Texts as cells. -/
def bsT (l : List ByteArray) : List Value := l.map Value.string
theorem bsT_get (l : List ByteArray) (k : Nat) (h : k < l.length) : (bsT l)[k]? = some (.string l[k]) := by
  unfold bsT
  rw [List.getElem?_map, List.getElem?_eq_getElem h]
  rfl
theorem bsT_snoc (l : List ByteArray) (x : ByteArray) : bsT (l ++ [x]) = bsT l ++ [.string x] := by simp [bsT]
theorem inL_snoc (l : List ByteArray) (k : Nat) (h : k < l.length) (x : ByteArray) (hk : inL (l.take k) x = false) (hne : l[k] ≠ x) : inL (l.take (k + 1)) x = false := by
  rw [List.take_succ_eq_append_getElem h, inL_app, hk, inL_one, decide_eq_false hne]
  rfl
theorem inL_at (l : List ByteArray) (k : Nat) (h : k < l.length) (x : ByteArray) (he : l[k] = x) : inL l x = true := List.any_eq_true.2 ⟨l[k], List.getElem_mem h, decide_eq_true he⟩

set_option maxHeartbeats 400000 in
theorem has_any (A : Option Addr) (c : Nat) (l : List ByteArray) (x : ByteArray) (w : World) (hR : Reads w w.heap.size 1 A l.length (bsT l)) (hn2 : l.length ≤ 2097152) :
    Calls Tryz.prog 60 #[.slice A l.length c, .string x] w fun e w' => e = .returned (.bool (inL l x)) ∧ Below w.heap.size w w' := by
  have HR := Lib.hid hR
  clear hR
  go_enter Tryz.func60, Tryz.ntmps60
  go_wp2
  go_loopw [5] (fun i wr => ∃ k : Nat, k ≤ l.length ∧ i = .int .i64 k ∧ inL (l.take k) x = false ∧ Below w.heap.size w wr) (fun i _ => l.length - (intOf i).toNat)
  case atStart => exact ⟨0, Nat.zero_le _, rfl, rfl, Below.refl _ _⟩
  case round =>
    obtain ⟨k, hk, rfl, hal, hb⟩ := hrel
    have Hal := Lib.hid hal
    have Hb := Lib.hid hb
    by_cases hlt : k < l.length
    · have hki : (k : Int) < (l.length : Int) := by omega
      have hki0 : (0 : Int) ≤ (k : Int) := by omega
      obtain ⟨tb, tq, rfl, htb, hc⟩ := HR.out.2 (by omega)
      have hck := hc k _ (bsT_get l k hlt)
      have hd := (hb.cell (p := ⟨tb, tq + k, none⟩) htb).trans hck
      have hbq := list_beq l[k] x
      by_cases he : l[k] = x
      · have Fin : Hid (inL l x = true) := Lib.hid (inL_at l k hlt x he)
        rw [decide_eq_true he] at hbq
        clear hc hck hal hb he
        generalize l[k] = y at *
        go_wp2
        go_ret
        exact ⟨by rw [Fin.out]; rfl, Hb.out⟩
      · have Hnx := Lib.hid (inL_snoc l k hlt x Hal.out he)
        rw [decide_eq_false he] at hbq
        clear hc hck hal hb he
        generalize l[k] = y at *
        go_wp2
        go_roundw
        case rel => exact ⟨k + 1, by omega, by go_num, Hnx.out, Hb.out⟩
        case measure => simp [intOf]; omega
    · obtain rfl : k = l.length := by omega
      have Fin : Hid (inL l x = false) := Lib.hid (by rw [List.take_length] at hal; exact hal)
      clear hal hb
      go_wp2
      go_ret
      exact ⟨by rw [Fin.out]; rfl, Hb.out⟩

/-- A row of texts of the call's own, being built. -/
structure TxOwn (w wr : World) (v : Value) (l : List ByteArray) : Prop where
  own : wr.ownsRow w.heap.size 9 1 v l.length (bsT l)
  bel : Below w.heap.size w wr
theorem TxOwn.below {w wr w2 : World} {v : Value} {l : List ByteArray} (h : TxOwn w wr v l) (hb : Below wr.heap.size wr w2) : TxOwn w w2 v l :=
  ⟨h.own.kept (grow_of_below hb none) (by cases hv : v.ownBlock <;> simp), h.bel.trans (hb.mono h.bel.size)⟩
theorem TxOwn.put {w wr w2 : World} {v v' : Value} {l : List ByteArray} {x : ByteArray} (h : TxOwn w wr v l)
    (hp : w2.ownsRow w.heap.size 9 1 v' (l.length + 1) (bsT l ++ [.string x])) (hg : wr.grownBy w2 v.ownBlock) : TxOwn w w2 v' (l ++ [x]) := by
  refine ⟨?_, h.bel.grown hg h.bel.size (fun k hk => (h.own.lt k hk).1)⟩
  rw [bsT_snoc, List.length_append]
  exact hp
/-- The row that is being built, beside the row of a field's words. -/
structure Two (w1 wx : World) (B : Nat) (v : Value) (l : List ByteArray) (V : Value) (ws : List (List UInt8)) : Prop where
  out : TxOwn w1 wx v l
  own : wx.ownsRow B 9 1 V ws.length (sv ws)
  ne : V.ownBlock = none ∨ V.ownBlock ≠ v.ownBlock
theorem Two.below {w1 wx w2 : World} {B : Nat} {v V : Value} {l : List ByteArray} {ws : List (List UInt8)} (h : Two w1 wx B v l V ws) (hb : Below wx.heap.size wx w2) : Two w1 w2 B v l V ws :=
  ⟨h.out.below hb, h.own.kept (grow_of_below hb none) (by cases hv : V.ownBlock <;> simp), h.ne⟩
theorem Two.put {w1 wx w2 : World} {B : Nat} {v v' V : Value} {l : List ByteArray} {x : ByteArray} {ws : List (List UInt8)} (h : Two w1 wx B v l V ws)
    (hp : w2.ownsRow w1.heap.size 9 1 v' (l.length + 1) (bsT l ++ [.string x])) (hg : wx.grownBy w2 v.ownBlock) (hat : v'.ownBlock = v.ownBlock ∨ v'.ownBlock = some wx.heap.size) : Two w1 w2 B v' (l ++ [x]) V ws := by
  refine ⟨h.out.put hp hg, h.own.kept hg h.ne, ?_⟩
  rcases hat with e | e
  · rw [e]; exact h.ne
  · cases hv : V.ownBlock with
    | none => exact .inl rfl
    | some u => exact .inr (fun e2 => by
        rw [e] at e2
        injection e2 with e2
        have := (h.own.lt u hv).2
        omega)
/-- The words, each once, on the way. -/
def wAt (name : ByteArray) (fs : List (ByteArray × ByteArray)) (j : Nat) : List ByteArray := (wdsF name (fs.take j)).foldl addW []
def wAtM (name : ByteArray) (fs : List (ByteArray × ByteArray)) (j : Nat) (ws : List (List UInt8)) (m : Nat) : List ByteArray := ((ws.take m).map str).foldl addW (wAt name fs j)
theorem wAt_skip (name : ByteArray) (fs : List (ByteArray × ByteArray)) (j : Nat) (h : j < fs.length) (hne : ¬ fs[j].1 = name) : wAt name fs (j + 1) = wAt name fs j := by
  unfold wAt
  rw [wdsF_snoc name fs j h, if_neg hne, List.append_nil]
theorem wAt_step (name : ByteArray) (fs : List (ByteArray × ByteArray)) (j : Nat) (h : j < fs.length) (he : fs[j].1 = name) : wAtM name fs j (words fs[j].2.data.toList) (words fs[j].2.data.toList).length = wAt name fs (j + 1) := by
  unfold wAtM wAt
  rw [wdsF_snoc name fs j h, if_pos he, List.foldl_append, List.take_length]
theorem wAtM_zero (name : ByteArray) (fs : List (ByteArray × ByteArray)) (j : Nat) (ws : List (List UInt8)) : wAtM name fs j ws 0 = wAt name fs j := rfl
theorem wAtM_step (name : ByteArray) (fs : List (ByteArray × ByteArray)) (j : Nat) (ws : List (List UInt8)) (m : Nat) (h : m < ws.length) : wAtM name fs j ws (m + 1) = addW (wAtM name fs j ws m) (str ws[m]) := by
  unfold wAtM
  rw [List.take_succ_eq_append_getElem h, List.map_append, List.foldl_append]
  rfl
theorem wAt_len (name : ByteArray) (fs : List (ByteArray × ByteArray)) (j : Nat) : (wAt name fs j).length ≤ (wdsF name fs).length := by
  have h1 := foldl_len (wdsF name (fs.take j)) []
  have h2 := wdsF_le name fs j
  unfold wAt
  rw [List.length_nil] at h1
  omega
theorem wAtM_len (name : ByteArray) (fs : List (ByteArray × ByteArray)) (j : Nat) (h : j < fs.length) (he : fs[j].1 = name) (m : Nat) : (wAtM name fs j (words fs[j].2.data.toList) m).length ≤ (wdsF name fs).length := by
  have h1 := foldl_len (((words fs[j].2.data.toList).take m).map str) (wAt name fs j)
  have h3 := foldl_len (wdsF name (fs.take j)) []
  have h2 := wdsF_le name fs (j + 1)
  rw [wdsF_snoc name fs j h, if_pos he, List.length_append, List.length_map] at h2
  rw [List.length_map, List.length_take] at h1
  rw [List.length_nil] at h3
  unfold wAtM
  unfold wAt at h1 ⊢
  omega

set_option maxHeartbeats 1000000 in
theorem wordsU_any (name : ByteArray) (t : Int) (F : Option Addr) (fn fc : Nat) (fs : List (ByteArray × ByteArray)) (w : World) (hF : Reads w w.heap.size 2 F fn (fldC fs)) (hfl : fs.length = fn) (hfn : fn ≤ 8796093021952) (hs : ∀ f ∈ fs, f.2.size ≤ 1048576) (htot : (wdsF name fs).length ≤ 1048576) :
    Calls Tryz.prog 32 #[.string name, .agg #[.int .i64 t, .slice F fn fc]] w fun e w' => ∃ v, e = .returned v ∧ TxOwn w w' v (wdsU name fs) := by
  obtain ⟨i0, hi0, hz0, hz1, hz2⟩ := info_parts str_info
  have HF := Lib.hid hF
  have Hs := Lib.hid hs
  have Hb1 : Hid (Below w.heap.size w (w.alloc (.cells #[.int .i64 t, .slice F fn fc] 54))) := Lib.hid ((Below.refl _ _).alloc (Nat.le_refl _) _)
  have HB1 := Lib.hid (Blk.new w 54 #[.int .i64 t, .slice F fn fc])
  clear hF hs
  go_enter Tryz.func32, Tryz.ntmps32
  go_wp2_with fail
  generalize hw1 : (w.alloc (.cells #[.int .i64 t, .slice F fn fc] 54)) = w1 at *
  have hz1w : w.heap.size < w1.heap.size := by rw [← hw1]; simp
  have S0 : Hid (TxOwn w1 w1 (.slice none 0 0) (wAt name fs 0)) := Lib.hid ⟨World.ownsRow_nil _ _ _ _, Below.refl _ _⟩
  clear hw1
  go_loopw [5, 6] (fun v i wr => ∃ j : Nat, j ≤ fn ∧ i = .int .i64 j ∧ Hid (TxOwn w1 wr v (wAt name fs j))) (fun _ i _ => fn - (intOf i).toNat)
  case atStart => exact ⟨0, Nat.zero_le _, rfl, S0⟩
  case round =>
    obtain ⟨j, hj, rfl, hO⟩ := hrel
    have hB2 := HB1.out.below hO.out.bel hz1w
    have hcl := hB2.cell 1
    simp only [List.getElem?_toArray, List.getElem?_cons_succ, List.getElem?_cons_zero] at hcl
    clear hB2
    by_cases hlj : j < fn
    · have hji : (j : Int) < (fn : Int) := by omega
      have hji0 : (0 : Int) ≤ (j : Int) := by omega
      have hjl : j < fs.length := by rw [hfl]; exact hlj
      have hsz := Hs.out fs[j] (List.getElem_mem hjl)
      obtain ⟨fb, fq, rfl, hfb, hfcl⟩ := HF.out.2 (by omega)
      have hg := fld_get j hjl
      have hbw := Hb1.out.trans (hO.out.bel.mono Hb1.out.size)
      have y0 := (hbw.cell (p := ⟨fb, fq + j * 2, none⟩) hfb).trans (hfcl _ _ hg.1)
      have y1' := hfcl _ _ hg.2
      rw [← Nat.add_assoc] at y1'
      have y1 := (hbw.cell (p := ⟨fb, fq + j * 2 + 1, none⟩) hfb).trans y1'
      have Hsk := Lib.hid (wAt_skip name fs j hjl)
      have Hst := Lib.hid (wAt_step name fs j hjl)
      have Hln := Lib.hid (wAtM_len name fs j hjl)
      have Hwl := Lib.hid (words_len fs[j].2)
      have Hms := Lib.hid (wAtM_step name fs j (words fs[j].2.data.toList))
      have cw := fun wx => words_ref fs[j].2 wx hsz
      generalize words fs[j].2.data.toList = ws at *
      generalize fs[j].1 = nm at *
      generalize fs[j].2 = tx at *
      have hbq := list_beq nm name
      clear hg hfcl hbw y1'
      by_cases hnm : nm = name
      · rw [decide_eq_true hnm] at hbq
        have hbn : (nm.toList != name.toList) = false := by rw [bne, hbq]; rfl
        have Hst2 := Lib.hid (Hst.out hnm)
        have Hln2 := Lib.hid (Hln.out hnm)
        clear hnm
        have c2 := cw wr
        clear cw
        go_wp2_with fail
        refine c2.mono ?_
        rintro e w2 ⟨v2, rfl, hown2, hb2⟩
        obtain ⟨A5, c5, rfl, hR5⟩ := own_shape hown2
        have hzr := hO.out.bel.size
        have Ho2 : Hid (Two w1 w2 wr.heap.size _ (wAtM name fs j ws 0) (.slice A5 ws.length c5) ws) := Lib.hid ⟨hO.out.below hb2, hown2, by
          cases hv : Value.ownBlock (.slice A5 ws.length c5) with
          | none => exact .inl rfl
          | some u => exact .inr (fun e => by
              have h1 := (hO.out.own.lt u e.symm).2
              have h2 := (hown2.lt u hv).1
              omega)⟩
        clear c2 hb2 hown2 hR5
        go_wp2_with fail
        go_loopw [5, 8] (fun v i wx => ∃ m : Nat, m ≤ ws.length ∧ i = .int .i64 m ∧ Hid (Two w1 wx wr.heap.size v (wAtM name fs j ws m) (.slice A5 ws.length c5) ws)) (fun _ i _ => ws.length - (intOf i).toNat)
        case atStart => exact ⟨0, Nat.zero_le _, rfl, Ho2⟩
        case round =>
          obtain ⟨m, hm, rfl, hOm⟩ := hrel
          have hwl := Hwl.out
          by_cases hlm : m < ws.length
          · have hmi : (m : Int) < (ws.length : Int) := by omega
            have hmi0 : (0 : Int) ≤ (m : Int) := by omega
            obtain ⟨A6, c6, e6, hR6⟩ := own_shape hOm.out.own
            injection e6 with e6 _ e7
            subst e6 e7
            obtain ⟨sb, sq, rfl, hsb, hsc⟩ := hR6.2 (by omega)
            have z0 := hsc m _ (sv_get ws m hlm)
            have Hm2 := Lib.hid (Hms.out m hlm)
            have hln := Hln2.out m
            generalize str ws[m] = sw at *
            generalize hy : wAtM name fs j ws m = out at *
            obtain ⟨A7, c7, e7, hR7⟩ := own_shape hOm.out.out.own
            subst e7
            have c3 := has_any A7 c7 out sw _ hR7 (by omega)
            have Hhas : Hid (inL out sw = true → addW out sw = out) := Lib.hid (fun h => by unfold addW; rw [if_pos h])
            have Hnot : Hid (inL out sw = false → addW out sw = out ++ [sw]) := Lib.hid (fun h => by unfold addW; rw [if_neg (by rw [h]; decide)])
            generalize inL out sw = b at *
            clear hR6 hsc hy hR7
            cases b with
            | true =>
              have Hn := Lib.hid (Hm2.out.trans (Hhas.out rfl))
              go_wp2_with fail
              refine c3.mono ?_
              rintro e w4 ⟨rfl, hb4⟩
              have Ho4 := Lib.hid (hOm.out.below hb4)
              clear c3 hb4
              go_wp2
              go_roundw
              case rel => exact ⟨m + 1, by omega, by go_num, by rw [Hn.out]; exact Ho4⟩
              case measure => simp [intOf]; omega
            | false =>
              have Hn := Lib.hid (Hm2.out.trans (Hnot.out rfl))
              go_wp2_with fail
              refine c3.mono ?_
              rintro e w4 ⟨rfl, hb4⟩
              have Ho4 := Lib.hid (hOm.out.below hb4)
              have z4 := (hb4.cell (p := ⟨sb, sq + m, none⟩) hsb).trans z0
              have hown4 := Ho4.out.out.own
              have hzz := Ho4.out.out.bel.size
              clear c3 hb4 z0
              go_wp2_with (at_builtin; refine wpList_append_own_at _ rfl _ _ 78 rfl w1.heap.size 9 i0 _ 1 16 Tryz.underlying78 hi0 hz0 hz1 hz2 rfl (by decide) _ _ _ rfl (hown4.alloc _) ⟨w4.heap.size, 0, none⟩ 1 1 [.string sw] rfl rfl ?d1 ?d2 ?d3 ?d4 ?d5 ?_)
              case d1 => exact World.news_of_block (cs := #[.string sw]) (t := 9) (fr := (0, 0)) (heap_alloc_new w4 _)
              case d2 => intro u hu; simp at hu; subst hu; rfl
              case d3 => unfold maxLen; omega
              case d4 => omega
              case d5 => simp; omega
              intro v' w5 hown5 hg5 _ hat5
              have Ho5 := Lib.hid ((Ho4.out.below ((Below.refl _ _).alloc (Nat.le_refl _) _)).put hown5 hg5 (by rw [World.size_alloc]; exact hat5))
              clear hown5 hg5 hown4
              go_wp2
              go_roundw
              case rel => exact ⟨m + 1, by omega, by go_num, by rw [Hn.out]; exact Ho5⟩
              case measure => simp [intOf]; omega
          · obtain rfl : m = ws.length := by omega
            have Ho9 : Hid (TxOwn w1 _ _ (wAt name fs (j + 1))) := Lib.hid (Hst2.out ▸ hOm.out.out)
            go_wp2
            go_roundw
            case rel => exact ⟨j + 1, by omega, by go_num, Ho9⟩
            case measure => simp [intOf]; omega
      · rw [decide_eq_false hnm] at hbq
        have hbn : (nm.toList != name.toList) = true := by rw [bne, hbq]; rfl
        have Hn := Lib.hid (Hsk.out hnm)
        clear hnm cw
        go_wp2
        go_roundw
        case rel => exact ⟨j + 1, by omega, by go_num, by rw [Hn.out]; exact hO⟩
        case measure => simp [intOf]; omega
    · obtain rfl : j = fn := by omega
      have Fin : Hid (TxOwn w1 _ _ (wdsU name fs)) := Lib.hid (by
        have h := hO.out
        unfold wAt at h
        rw [List.take_of_length_le (by omega)] at h
        exact h)
      go_wp2
      go_ret
      exact ⟨_, rfl, Fin.out.own.mono Hb1.out.size, Hb1.out.trans (Fin.out.bel.mono Hb1.out.size)⟩
end Go.Proofs.YtdloacfoegjnmaaGreat.Gr
end

section
/- loggiaref30.Of: the walk. -/
namespace Go.Proofs.YtdloacfoegjnmaaGreat.Gr
open Go.RowKit Go.Proofs.YtdloacfoegjnmaaGreat Go.Proofs.YtdloacfoegjnmaaGreat.Ut Go.Proofs.YtdloacfoegjnmaaGreat.Tk Go.Proofs.YtdloacfoegjnmaaGreat.Qy Go.Sort Go.Shelf Go.Lib
set_option maxRecDepth 20000
set_option linter.unusedSimpArgs false
set_option linter.unusedVariables false

set_option maxHeartbeats 400000 in
theorem rof_bad (name : ByteArray) (A : Option Addr) (n c : Nat) (w : World) (hname : name.size ≤ 140737488351232) (hN : isN name.data.toList = false) :
    Calls Tryz.prog 10 #[.string name, .slice A n c] w fun e w' => e = .returned (.tuple #[.slice none 0 0, .int .i64 1]) ∧ Below w.heap.size w w' := by
  have c1 := isName_refB name w hname
  rw [hN] at c1
  go_enter Tryz.func10, Tryz.ntmps10
  go_wp2_with fail
  refine c1.mono ?_
  rintro e w1 ⟨rfl, rfl⟩
  clear c1
  go_wp2
  go_ret2
  exact ⟨rfl, Below.refl _ _⟩

/-- The table on the way, behind some docs and some words of the next. -/
structure TabAt (w wx : World) (v : Value) (l : List Ct) (g : ByteArray → Nat) (q : Nat) : Prop where
  bel : Below w.heap.size w wx
  sl : SlC wx v l
  tab : IsTab (tabOf g) l
  sm : SmallC l
  len : l.length ≤ q
theorem TabAt.below {w wx w2 : World} {v : Value} {l : List Ct} {g : ByteArray → Nat} {q : Nat} (h : TabAt w wx v l g q) (hb : Below wx.heap.size wx w2) : TabAt w w2 v l g q :=
  ⟨h.bel.trans (hb.mono h.bel.size), h.sl.grow hb, h.tab, h.sm, h.len⟩

set_option maxHeartbeats 1000000 in
theorem rof_any (name : ByteArray) (A : Option Addr) (n c : Nat) (ds : List Dc) (w : World) (hD : DocsAt w w.heap.size A n ds) (hn : n ≤ 1048576) (hs : ∀ d ∈ ds, ∀ f ∈ d.fs, f.2.size ≤ 1048576) (htot : totW name ds ≤ 1048576) (hname : name.size ≤ 140737488351232) (hN : isN name.data.toList = true) :
    Calls Tryz.prog 10 #[.string name, .slice A n c] w fun e w' => ∃ l, IsTab (tabOf (cntN name ds)) l ∧ l.length ≤ 1048576 ∧ ∃ v, e = .returned (.tuple #[v, .int .i64 0]) ∧ SlC w' v l ∧ Below w.heap.size w w' := by
  have c1 := isName_refB name w hname
  rw [hN] at c1
  have HD := Lib.hid hD
  have Hl := Lib.hid hD.ln
  have Hs := Lib.hid hs
  clear hD hs hN
  go_enter Tryz.func10, Tryz.ntmps10
  go_wp2_with fail
  refine c1.mono ?_
  rintro e w1 ⟨rfl, rfl⟩
  have S0 : Hid (TabAt w w (.slice none 0 0) [] (cntN name (ds.take 0)) (totW name (ds.take 0))) := Lib.hid ⟨Below.refl _ _, SlC.nil _, by rw [tabOf_zero (fun s => by simp [cntN])]; exact IsTab.none, fun y hy => (nomatch hy), Nat.zero_le _⟩
  clear c1
  go_wp2_with fail
  go_loopw [6, 7] (fun v i wx => ∃ (k : Nat) (l : List Ct), k ≤ n ∧ i = .int .i64 (k : Nat) ∧ Hid (TabAt w wx v l (cntN name (ds.take k)) (totW name (ds.take k)))) (fun _ i _ => n - (intOf i).toNat)
  case atStart => exact ⟨0, [], Nat.zero_le _, rfl, S0⟩
  case round =>
    obtain ⟨k, l, hk, rfl, hT⟩ := hrel
    by_cases hlt : k < n
    · have hki : (k : Int) < (n : Int) := by omega
      have hki0 : (0 : Int) ≤ (k : Int) := by omega
      have hkl : k < ds.length := by rw [Hl.out]; exact hlt
      have hsd := Hs.out ds[k] (List.getElem_mem hkl)
      have hts := totW_snoc name ds k hkl
      have htl := totW_le name ds (k + 1)
      have hDr := HD.out.grow hT.out.bel
      obtain ⟨db, dq, F, fn, fc, rfl, hdb, d0, d1, d2, hF, hfl, hfn, hfc, hf0⟩ := hDr.at_ hkl
      have cw := wordsU_any name ds[k].at_ F fn fc ds[k].fs wr hF hfl hfn hsd (by omega)
      have hul := wdsU_len name ds[k].fs
      have Huw := Lib.hid (wdsU_w name ds[k].fs)
      have Hall := Lib.hid (gAt_all name ds k hkl)
      have Hzero := Lib.hid (gAt_zero name (ds.take k) (wdsU name ds[k].fs))
      have Hsnoc := Lib.hid (gAt_snoc name (ds.take k) (wdsU name ds[k].fs))
      have Hle := Lib.hid (gAt_le name (ds.take k) (wdsU name ds[k].fs))
      have hdl : (ds.take k).length ≤ n := by rw [List.length_take]; omega
      generalize wdsU name ds[k].fs = us at *
      generalize (wdsF name ds[k].fs).length = wl at *
      generalize ds[k].seq = q0 at *
      generalize ds[k].at_ = q1 at *
      have Hts := Lib.hid hts
      clear hDr hsd hF hf0 hts
      go_wp2_with fail
      refine cw.mono ?_
      rintro e w2 ⟨v2, rfl, hO2⟩
      obtain ⟨A5, c5, rfl, hR5⟩ := own_shape hO2.own
      have HR5 := Lib.hid hR5
      have Hb2 := Lib.hid hO2.bel
      have S1 : Hid (TabAt w w2 _ l (gAt name (ds.take k) us 0) (totW name (ds.take k) + 0)) := Lib.hid (by
        have h := hT.out.below hO2.bel
        exact ⟨h.bel, h.sl, by rw [Hzero.out]; exact h.tab, h.sm, h.len⟩)
      clear cw hO2 hR5 Hzero
      go_wp2_with fail
      go_loopw [6, 9] (fun v i wy => ∃ (m : Nat) (l : List Ct), m ≤ us.length ∧ i = .int .i64 (m : Nat) ∧ Hid (TabAt w wy v l (gAt name (ds.take k) us m) (totW name (ds.take k) + m)) ∧ Hid (Below w2.heap.size w2 wy)) (fun _ i _ => us.length - (intOf i).toNat)
      case atStart => exact ⟨0, l, Nat.zero_le _, rfl, S1, Lib.hid (Below.refl _ _)⟩
      case round =>
        obtain ⟨m, l1, hm, rfl, hT1, hB1⟩ := hrel
        have hts := Hts.out
        by_cases hlm : m < us.length
        · have hmi : (m : Int) < (us.length : Int) := by omega
          have hmi0 : (0 : Int) ≤ (m : Int) := by omega
          obtain ⟨sb, sq, rfl, hsb, hsc⟩ := HR5.out.2 (by omega)
          have z0 := (hB1.out.cell (p := ⟨sb, sq + m, none⟩) hsb).trans (hsc m _ (bsT_get us m hlm))
          have huw := Huw.out _ (List.getElem_mem hlm)
          obtain ⟨VA, vc, rfl, hVR, hvc, hvn⟩ := hT1.out.sl
          have hlen := hT1.out.len
          have c3 := with_any VA l1.length vc l1 us[m] 1 wr hVR (by omega) hvc hvn hT1.out.sm (by omega) (by omega)
          have hw1 := with_one hT1.out.tab us[m] (by have := Hle.out m us[m]; omega)
          have Hsm := Lib.hid (withR_small (s := us[m]) (n := 1) hT1.out.sm (by omega) (by omega))
          have Hwl := withR_len l1 us[m] 1
          rw [Hsnoc.out m hlm] at hw1
          have Hw1 := Lib.hid hw1.2
          unfold WithPost at c3
          rw [hw1.1] at c3
          generalize us[m] = sw at *
          generalize (withR l1 sw 1).1 = l3 at *
          clear hw1 hVR hvn hsc
          go_wp2_with fail
          refine c3.mono ?_
          rintro e w3 ⟨v3, rfl, hC3⟩
          have S3 : Hid (TabAt w w3 v3 l3 (gAt name (ds.take k) us (m + 1)) (totW name (ds.take k) + (m + 1))) := Lib.hid ⟨hT1.out.bel.trans (hC3.bel.mono hT1.out.bel.size), SlC.of_own hC3.own, Hw1.out, Hsm.out, by omega⟩
          have B3 := Lib.hid (hB1.out.trans (hC3.bel.mono hB1.out.size))
          clear c3 hC3
          go_wp2
          go_roundw
          case rel => exact ⟨m + 1, l3, by omega, by go_num, S3, B3⟩
          case measure => simp [intOf]; omega
        · obtain rfl : m = us.length := by omega
          have S4 : Hid (TabAt w wr _ l1 (cntN name (ds.take (k + 1))) (totW name (ds.take (k + 1)))) := Lib.hid (by
            have h := hT1.out
            exact ⟨h.bel, h.sl, by rw [← Hall.out]; exact h.tab, h.sm, by have := h.len; have := Hts.out; omega⟩)
          go_wp2
          go_roundw
          case rel => exact ⟨k + 1, l1, by omega, by go_num, S4⟩
          case measure => simp [intOf]; omega
    · obtain rfl : k = n := by omega
      have Fin : Hid (TabAt w wr _ l (cntN name ds) (totW name ds)) := Lib.hid (by
        have h := hT.out
        rw [List.take_of_length_le (by rw [Hl.out]; exact Nat.le_refl _)] at h
        exact h)
      go_wp2
      go_ret2
      exact ⟨l, Fin.out.tab, Nat.le_trans Fin.out.len htot, _, rfl, Fin.out.sl, Fin.out.bel⟩
end Go.Proofs.YtdloacfoegjnmaaGreat.Gr
end

section
/- The example of chapter 14, in plain words. (No walk.) -/
namespace Go.Proofs.YtdloacfoegjnmaaGreat.Mx
open Go.RowKit Go.Proofs.YtdloacfoegjnmaaGreat Go.Proofs.YtdloacfoegjnmaaGreat.Ut Go.Proofs.YtdloacfoegjnmaaGreat.Tk Go.Proofs.YtdloacfoegjnmaaGreat.Qy Go.Proofs.YtdloacfoegjnmaaGreat.Ev
set_option linter.unusedVariables false
set_option linter.unusedSimpArgs false
set_option maxRecDepth 100000

def exMsg : ByteArray := ⟨#[109, 115, 103]⟩
def exA : ByteArray := ⟨#[97, 32, 98]⟩
def exB : ByteArray := ⟨#[98]⟩
def exT : ByteArray := ⟨#[109, 115, 103, 58, 98]⟩
def exL : List Evn := [(0, [(exMsg, exA)]), (0, [(exMsg, exB)])]
theorem ex_chk : chkB 1 exL = 0 := by decide +kernel
theorem ex_add : addE [] 1 exL = 0 := by decide +kernel
theorem ex_posts : postsT ((addD [] 1 exL).map (·.fs)) exT = [(0, [1]), (1, [0])] := by decide +kernel
theorem ex_len : (addD [] 1 exL).length = 2 := by decide +kernel
theorem ex_sz : szD (addD [] 1 exL) = 42 := by decide +kernel
end Go.Proofs.YtdloacfoegjnmaaGreat.Mx
end
