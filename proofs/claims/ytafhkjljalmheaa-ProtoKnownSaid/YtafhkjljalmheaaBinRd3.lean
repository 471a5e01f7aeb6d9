/- The walks of bin.Read and of the reader's Byte and Text. -/
import Derived.Test.YtafhkjljalmheaaBinRd2
namespace Go.Proofs.Ytafhkjljalmheaa
open Go.RowKit
set_option linter.unusedVariables false
namespace BinP
def pText (most : Int) (st : St) : List UInt8 × St :=
  match pInt most st with
  | (_, none) => ([], none)
  | (n, some l) => if l.length < n then ([], none) else (l.take n, some (l.drop n))
end BinP
theorem left_some (l : List UInt8) : BinP.left (some l) = l.length := rfl
theorem left_none : BinP.left none = 0 := rfl
theorem endN_nil : BinP.endN (some []) = 0 := rfl
theorem endN_cons (x : UInt8) (l : List UInt8) : BinP.endN (some (x :: l)) = 14 := rfl
theorem endN_none : BinP.endN none = 14 := rfl
theorem errN_some (l : List UInt8) : BinP.errN (some l) = 0 := rfl
theorem errN_none : BinP.errN none = 14 := rfl
theorem set1' (w : World) (g : Nat) (u : Value) : w.grownBy (w.setCell ⟨g, 1, none⟩ u) (some g) := grown_set w g 1 u
theorem set10' (w : World) (g : Nat) (u v : Value) : w.grownBy ((w.setCell ⟨g, 1, none⟩ u).setCell ⟨g, 0, none⟩ v) (some g) := grown_trans' (set1' w g u) (grown_set _ g 0 v)
theorem heap1' {w : World} {g : Nat} {a b : Value} {t : TypeId} (u : Value) (h : w.heap[g]? = some (.cells #[a, b] t (0, 0))) : (w.setCell ⟨g, 1, none⟩ u).heap[g]? = some (.cells #[a, u] t (0, 0)) := heap_setCell_at w g 1 _ t (0, 0) u h
theorem heap10' {w : World} {g : Nat} {a b : Value} {t : TypeId} (u v : Value) (h : w.heap[g]? = some (.cells #[a, b] t (0, 0))) : ((w.setCell ⟨g, 1, none⟩ u).setCell ⟨g, 0, none⟩ v).heap[g]? = some (.cells #[v, u] t (0, 0)) :=
  heap_setCell_at _ g 0 _ t (0, 0) v (heap1' u h)
set_option maxRecDepth 4000 in
set_option maxHeartbeats 400000 in
theorem byte_no (g : Nat) (l : List UInt8) (bad : Bool) (base : Nat × Nat) (w : World) (h : Rd w base g l bad) (hb : bad = true ∨ l = []) :
    Calls Try.prog 16 #[.pointer (some ⟨g, 0, none⟩)] w fun e w' => e = .returned (.int .u8 0) ∧ RdS w' base g none ∧ w.grownBy w' (some g) := by
  obtain ⟨A, n, c, K⟩ := h.knows
  have hc0 := K.c0
  have hc1 := K.c1
  have hf1 := K.f1
  clear h
  rcases bad with _ | _
  · have hl : l = [] := by simpa using hb
    subst hl
    have hn0 : n < 1 := by rw [← K.hn]; simp
    have hnb : ((n : Int) == 0) = true := by simp; omega
    clear hb
    go_enter Try.func16, Try.ntmps16
    go_wp2_with fail
    go_ret
    exact ⟨rfl, ⟨[], rd_make (heap1' (.bool true) K.hg) K.hb K.hn K.hnc K.hcm K.hr K.hne (set1' w g _)⟩, set1' w g _⟩
  · clear hb
    go_enter Try.func16, Try.ntmps16
    go_wp2_with fail
    go_ret
    exact ⟨rfl, ⟨l, rd_make (heap1' (.bool true) K.hg) K.hb K.hn K.hnc K.hcm K.hr K.hne (set1' w g _)⟩, set1' w g _⟩
set_option maxRecDepth 4000 in
set_option maxHeartbeats 400000 in
theorem byte_some (g : Nat) (x : UInt8) (r : List UInt8) (base : Nat × Nat) (w : World) (h : Rd w base g (x :: r) false) :
    Calls Try.prog 16 #[.pointer (some ⟨g, 0, none⟩)] w fun e w' => e = .returned (b8 x) ∧ RdS w' base g (some r) ∧ w.grownBy w' (some g) := by
  obtain ⟨A, n, c, K⟩ := h.knows
  have hc0 := K.c0
  have hc1 := K.c1
  have hf1 := K.f1
  have hf0 := K.f0
  have hn := K.hn
  have hnc := K.hnc
  have hcm := K.hcm
  unfold maxLen at hcm
  obtain ⟨ad, hA, hab, hcx⟩ := K.hr 0 (b8 x) rfl
  have hne := (K.hne ad hA).1
  have hcx' : (w.setCell ⟨g, 1, none⟩ (.bool false)).cell? ad = some (b8 x) := by
    rw [World.cell?_setCell_other _ _ _ _ (fun e => hne (by rw [← e]))]
    exact hcx
  subst hA
  clear h hcx hne
  have hn0 : 0 < n := by rw [← hn]; simp
  have HN := Lib.hid hn
  clear hn
  by_cases hcn : c = 1
  · subst hcn
    go_enter Try.func16, Try.ntmps16
    go_wp2_with fail
    go_ret
    have hcut := K.hr.cut0 (n := 1) (c := 1) (by simp) (by rw [HN.out]; exact hnc) rfl
    exact ⟨rfl, rd_make (heap10' _ _ K.hg) K.hb (by have := HN.out; simp at this; omega) (by omega) (by unfold maxLen; omega) hcut K.hne (set10' w g _ _), set10' w g _ _⟩
  · have hc1lt : 1 < c := by omega
    go_enter Try.func16, Try.ntmps16
    go_wp2_with fail
    go_ret
    have hcut := K.hr.cut1 (n := 1) (c := c) (by simp) (by rw [HN.out]; exact hnc) hcn
    exact ⟨rfl, rd_make (heap10' _ _ K.hg) K.hb (by rw [← HN.out]; simp) (by omega) (by unfold maxLen; omega) hcut (fun ad' e => by injection e with e; subst e; exact K.hne ad rfl) (set10' w g _ _), set10' w g _ _⟩
theorem rd_byte (g : Nat) (st : BinP.St) (base : Nat × Nat) (w : World) (h : RdS w base g st) :
    Calls Try.prog 16 #[.pointer (some ⟨g, 0, none⟩)] w fun e w' => e = .returned (b8 (BinP.pByte st).1) ∧ RdS w' base g (BinP.pByte st).2 ∧ w.grownBy w' (some g) := by
  rcases st with _ | l
  · obtain ⟨l, h⟩ := h
    exact byte_no g l true base w h (.inl rfl)
  · rcases l with _ | ⟨x, r⟩
    · exact byte_no g [] false base w h (.inr rfl)
    · exact byte_some g x r base w h
set_option maxRecDepth 4000 in
set_option maxHeartbeats 400000 in
theorem text_no (g : Nat) (base : Nat × Nat) (w : World) (a : Int) (st : BinP.St) (ha : (Lit.int .i64 a).wf = true) (h : RdS w base g st) (hn : (BinP.pInt a st).2 = none) :
    Calls Try.prog 12 #[.pointer (some ⟨g, 0, none⟩), .int .i64 a] w fun e w' => e = .returned (.string ⟨#[]⟩) ∧ RdS w' base g none ∧ w.grownBy w' (some g) := by
  have h1 := rd_int g st base w a ha h
  rw [hn] at h1
  have H1 := Lib.hid h1
  clear hn h1 h ha
  go_enter Try.func12, Try.ntmps12
  go_wp2_with fail
  refine H1.out.mono ?_
  rintro e w1 ⟨rfl, ⟨l, h⟩, hg1⟩
  obtain ⟨A, n, c, K⟩ := h.knows
  have hc0 := K.c0
  have hc1 := K.c1
  have hf1 := K.f1
  go_wp2_with fail
  go_ret
  exact ⟨rfl, ⟨l, rd_make (heap1' (.bool true) K.hg) K.hb K.hn K.hnc K.hcm K.hr K.hne (set1' w1 g _)⟩, grown_trans' hg1 (set1' w1 g _)⟩
set_option maxRecDepth 4000 in
set_option maxHeartbeats 400000 in
theorem text_short (g : Nat) (base : Nat × Nat) (w : World) (a : Int) (st : BinP.St) (m : Nat) (l : List UInt8) (ha : (Lit.int .i64 a).wf = true) (h : RdS w base g st) (hn : BinP.pInt a st = (m, some l)) (hm : l.length < m) :
    Calls Try.prog 12 #[.pointer (some ⟨g, 0, none⟩), .int .i64 a] w fun e w' => e = .returned (.string ⟨#[]⟩) ∧ RdS w' base g none ∧ w.grownBy w' (some g) := by
  have h1 := rd_int g st base w a ha h
  rw [hn] at h1
  have H1 := Lib.hid h1
  clear hn h1 h ha
  go_enter Try.func12, Try.ntmps12
  go_wp2_with fail
  refine H1.out.mono ?_
  rintro e w1 ⟨rfl, h, hg1⟩
  obtain ⟨A, n, c, K⟩ := Rd.knows h
  have hc0 := K.c0
  have hc1 := K.c1
  have hf1 := K.f1
  have hmn : n < m := by rw [← K.hn]; exact hm
  have hd : decide ((n : Int) < (m : Int)) = true := by simp; omega
  go_wp2_with fail
  go_ret
  exact ⟨rfl, ⟨l, rd_make (heap1' (.bool true) K.hg) K.hb K.hn K.hnc K.hcm K.hr K.hne (set1' w1 g _)⟩, grown_trans' hg1 (set1' w1 g _)⟩
theorem Row.cutTo {w : World} {B : Nat} {A : Option Addr} {l : List UInt8} (h : Row w B A (l.map b8)) (n : Nat) : Row w B A ((l.take n).map b8) := by
  rw [List.map_take]; exact h.take n
set_option maxRecDepth 4000 in
set_option maxHeartbeats 400000 in
theorem text_some (g : Nat) (base : Nat × Nat) (w : World) (a : Int) (st : BinP.St) (m : Nat) (l : List UInt8) (ha : (Lit.int .i64 a).wf = true) (h : RdS w base g st) (hn : BinP.pInt a st = (m, some l)) (hm : m ≤ l.length) :
    Calls Try.prog 12 #[.pointer (some ⟨g, 0, none⟩), .int .i64 a] w fun e w' => e = .returned (.string ⟨(l.take m).toArray⟩) ∧ RdS w' base g (some (l.drop m)) ∧ w.grownBy w' (some g) := by
  have h1 := rd_int g st base w a ha h
  rw [hn] at h1
  have H1 := Lib.hid h1
  clear hn h1 h ha
  go_enter Try.func12, Try.ntmps12
  go_wp2_with fail
  refine H1.out.mono ?_
  rintro e w1 ⟨rfl, h, hg1⟩
  obtain ⟨A, n, c, K⟩ := Rd.knows h
  have hc0 := K.c0
  have hc1 := K.c1
  have hf1 := K.f1
  have hf0 := K.f0
  have hmn : m ≤ n := by rw [← K.hn]; exact hm
  have hnc := K.hnc
  have hcm := K.hcm
  unfold maxLen at hcm
  have hd : decide ((n : Int) < (m : Int)) = false := by simp; omega
  have hrow : Row (w1.setCell ⟨g, 1, none⟩ (.bool false)) (w1.setCell ⟨g, 1, none⟩ (.bool false)).heap.size A ((l.take m).map b8) := (K.hr.but (set1' w1 g _) (fun ad e => (K.hne ad e).1)).cutTo m
  have htl : (l.take m).length = m := by simp; omega
  have HTL := Lib.hid htl
  clear htl h
  by_cases hcn : c = m
  · subst hcn
    go_wp2_with (refine wpList_str8 (dst := some 36) A c c _ (l.take c) rfl rfl HTL.out hrow ?_)
    go_ret
    exact ⟨rfl, rd_make (heap10' _ _ K.hg) K.hb (by rw [List.length_drop, K.hn]; omega) (by omega) (by unfold maxLen; omega) (K.hr.cut0 hm (by rw [K.hn]; exact hnc) rfl) K.hne (set10' w1 g _ _), grown_trans' hg1 (set10' w1 g _ _)⟩
  · go_wp2_with (refine wpList_str8 (dst := some 36) A m c _ (l.take m) rfl rfl HTL.out hrow ?_)
    go_ret
    exact ⟨rfl, rd_make (heap10' _ _ K.hg) K.hb (by rw [List.length_drop, K.hn]) (by omega) (by unfold maxLen; omega) (K.hr.cut1 hm (by rw [K.hn]; exact hnc) hcn) (ne_add K.hne) (set10' w1 g _ _), grown_trans' hg1 (set10' w1 g _ _)⟩
theorem rd_text (g : Nat) (st : BinP.St) (base : Nat × Nat) (w : World) (a : Int) (ha : (Lit.int .i64 a).wf = true) (h : RdS w base g st) :
    Calls Try.prog 12 #[.pointer (some ⟨g, 0, none⟩), .int .i64 a] w fun e w' => e = .returned (.string ⟨(BinP.pText a st).1.toArray⟩) ∧ RdS w' base g (BinP.pText a st).2 ∧ w.grownBy w' (some g) := by
  rcases hp : BinP.pInt a st with ⟨m, _ | l⟩
  · have e : BinP.pText a st = ([], none) := by simp [BinP.pText, hp]
    rw [e]
    exact text_no g base w a st ha h (by rw [hp])
  · by_cases hm : l.length < m
    · have e : BinP.pText a st = ([], none) := by simp [BinP.pText, hp, hm]
      rw [e]
      exact text_short g base w a st m l ha h hp hm
    · have e : BinP.pText a st = (l.take m, some (l.drop m)) := by simp [BinP.pText, hp, hm]
      rw [e]
      exact text_some g base w a st m l ha h hp (by omega)
set_option maxRecDepth 4000 in
set_option maxHeartbeats 400000 in
/-- bin.Read: a new reader -/
theorem bin_read (A : Option Addr) (n c : Nat) (l : List UInt8) (B : Nat) (w : World) (hn : l.length = n) (hr : Row w B A (l.map b8)) (hB : B ≤ w.heap.size) (hm : n ≤ 140737488355328) :
    Calls Try.prog 11 #[.slice A n c] w fun e w' => ∃ g, e = .returned (.pointer (some ⟨g, 0, none⟩)) ∧ RdS w' (w.heap.size, w'.heap.size) g (some l) ∧ Below w.heap.size w w' := by
  have h1 := clone8 A n c l B w hn hr hB hm
  have H1 := Lib.hid h1
  clear h1 hr hn
  go_enter Try.func11, Try.ntmps11
  go_wp2_with fail
  refine H1.out.mono ?_
  rintro e w1 ⟨A1, n1, cap1, rfl, hO1, hB1⟩
  go_wp2_with fail
  go_ret
  have hs := hB1.size
  have hO := hO1.alloc (.cells #[.slice A1 n1 cap1, .bool false] 67)
  refine ⟨w1.heap.size, rfl, ⟨A1, n1, cap1, heap_alloc_new w1 _, ⟨hs, by simp⟩, hO1.len, hO1.le.1, hO1.le.2, hO.row, fun ad e => ?_⟩, hB1.alloc hs _⟩
  have := Own.lt hO1 ad.block (by rw [e]; rfl)
  exact ⟨by omega, this.1, by simp; omega⟩
end Go.Proofs.Ytafhkjljalmheaa
