/- Near and Ask, of kept queries whose maps lie above a base; openers. (No walk.) -/
import Derived.Test.YtlfpfkallgkjdaaGreatQAlQn0
import Derived.Test.YtlfpfkallgkjdaaGreatQAlQn3
import Derived.Test.YtlfpfkallgkjdaaGreatQAlertRunsRow40
set_option linter.unusedSimpArgs false
set_option linter.unusedVariables false
set_option maxRecDepth 40000
namespace Go.Proofs.YtlfpfkallgkjdaaGreat.Al
open Go.RowKit Go.Maps Ut Tk Qy Qp Ev Mv
section
variable {n0:Nat} {w w':World} {X K:Nat} {l:List (Int × Kp)}
def NearV (fs:List Fl) (l:List (Int × Kp)):List Int:=if chkE fs=0 then nearL (hasT fs) l else []
def AskV (fs:List Fl) (l:List (Int × Kp)):List Int:=if chkE fs=0 then (l.filter (fun x=>matchB fs x.2.q)).map (·.1) else []
theorem near_n (h:AlN n0 w X K l) (hll:l.length≤1000) (t:Int) (F:Option Addr) (fn fc:Nat) (fs:List Fl) (hF:FlAt w w.heap.size F fn fc fs) :
  Calls Tryz.prog 16 #[.pointer (some ⟨X,0,none⟩),.agg #[.int .i64 t,.slice F fn fc]] w (NumsP w (NearV fs l)):=by
 obtain ⟨cn,M1,M2,F1,F2,h1,h2,h3⟩:=h.ex
 exact near_any t F fn fc fs hF h2 hll
theorem ask_n (h:AlN n0 w X K l) (hll:l.length≤1000) (t:Int) (F:Option Addr) (fn fc:Nat) (fs:List Fl) (hF:FlAt w w.heap.size F fn fc fs) :
  Calls Tryz.prog 17 #[.pointer (some ⟨X,0,none⟩),.agg #[.int .i64 t,.slice F fn fc]] w (NumsP w (AskV fs l)):=by
 obtain ⟨cn,M1,M2,F1,F2,h1,h2,h3⟩:=h.ex
 exact ask_any t F fn fc fs hF h2 hll
theorem near_few (fs:List Fl) (h:l.length≤1000):(NearV fs l).length≤1000:=by
 unfold NearV nearL
 split
 ·rw [List.length_map]; exact Nat.le_trans (List.length_filter_le _ _) h
 ·simp
theorem ask_few (fs:List Fl) (h:l.length≤1000):(AskV fs l).length≤1000:=by
 unfold AskV
 split
 ·rw [List.length_map]; exact Nat.le_trans (List.length_filter_le _ _) h
 ·simp
theorem ask_sub (fs:List Fl) (hok:∀ x∈l,KOk x.2):∀ x∈AskV fs l,x∈NearV fs l:=fun x hx=>by
 unfold AskV at hx
 unfold NearV
 by_cases hck:chkE fs=0
 ·rw [if_pos hck] at hx ⊢
  unfold nearL
  obtain ⟨y,hy,rfl⟩:=List.mem_map.1 hx
  obtain ⟨h1,h2⟩:=List.mem_filter.1 hy
  refine List.mem_map.2 ⟨y,List.mem_filter.2 ⟨h1,?_⟩,rfl⟩
  unfold nearB
  rw [(hok y h1).nd]
  exact near_match fs y.2.q h2
 ·rw [if_neg hck] at hx
  cases hx
theorem nums_rows {wx:World} {L:List Int} {v:Value} (h:w'.ownsRow w.heap.size 3 1 v L.length (itv L)) (hb:Below w'.heap.size w' wx):∃ A c,v=.slice A L.length c∧Reads wx wx.heap.size 1 A L.length (itv L):=by
 obtain ⟨A,c,rfl,hR,hc,hn,_⟩:=Ev.own_shape2 h
 exact ⟨A,c,rfl,(hR.keep fun _ _ hp=>hb.cell hp).more hb.size⟩
end
end Go.Proofs.YtlfpfkallgkjdaaGreat.Al


