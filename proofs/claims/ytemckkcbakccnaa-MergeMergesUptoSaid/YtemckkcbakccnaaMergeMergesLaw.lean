/- A slice of slices of items that came in, opened: a list of lists of items. -/
import Derived.Test.YtemckkcbakccnaaOpenI
import Derived.Test.YtemckkcbakccnaaItemCat
import Derived.Deep.Slices
import Derived.Test.YtemckkcbakccnaaAwake10
import Derived.Test.YtemckkcbakccnaaCopies
import Derived.Test.YtemckkcbakccnaaMrgMerge
import Derived.Test.YtemckkcbakccnaaRefMerge
import Derived.Test.YtemckkcbakccnaaRefSorted
import Derived.Test.YtemckkcbakccnaaItemEq
import Derived.Test.YtemckkcbakccnaaRangeB
import Derived.Test.YtemckkcbakccnaaClass
import Derived.Test.YtemckkcbakccnaaValIter
import Derived.Test.YtemckkcbakccnaaRoundQuiet
import Derived.Deep.CutBlock
import Derived.Test.YtemckkcbakccnaaOpen
namespace Go.Proofs.Ytemckkcbakccnaa
open Go.RowKit Go.ChangeShapes Go.WideShapes
set_option linter.unusedVariables false
structure LItemsIn (w : World) (A : Option Addr) (n c : Nat) (ll : List (List It)) : Prop where
  len : ll.length = n
  le : n ≤ c
  max : c ≤ maxLen
  row : LRowI w w.heap.size A ll
  seq : ∀ l ∈ ll, ∀ x ∈ l, x.seq < m64
  kln : ∀ l ∈ ll, ∀ x ∈ l, x.key.length ≤ maxLen
/-- how many values and letters: at least -/
def bulk_litems : List (List It) → Nat
  | [] => 0
  | l :: r => bulk_items l + 1 + bulk_litems r
section
variable {H : Type} {enc : TypeId × Value → H} {w : World} {base : Nat} {spare : Nat → Bool} {held : Bool}
theorem items_form {fuel : Nat} {v : Value} {x : DataW H × List MemPlace} (h : DataW.trod enc Try.prog w base spare held fuel 23 [v] = some x) : ∃ A n c, v = .slice A n c := by
  rcases Deep.open_slice Try.underlying23 h with ⟨hcs, hx⟩ | ⟨a, len, cap, m, n1, D, Pl, hcs, _⟩
  · simp only [List.cons.injEq, and_true] at hcs
    exact ⟨_, _, _, hcs⟩
  · simp only [List.cons.injEq, and_true] at hcs
    exact ⟨_, _, _, hcs⟩
theorem open_litems {fuel : Nat} {A : Option Addr} {n c : Nat} {x : DataW H × List MemPlace} (h : DataW.trod enc Try.prog w base spare held fuel 30 [.slice A n c] = some x) :
    ∃ ll, LItemsIn w A n c ll ∧ bulk_litems ll + 1 ≤ Rows.uptoBulk x.1 ∧ ((x.1 = .nil ∧ n = 0) ∨ ∃ es sp, x.1 = .slice es sp ∧ es.length = n) := by
  have hcu : Try.prog.cellsOf 23 = 1 := by kernel_rfl
  rcases Deep.open_slice1 Try.underlying30 hcu h with ⟨hcs, hx⟩ | ⟨a, len, cap, m, n1, V, D, Pl, hcs, _, hl, hm, hmm, hx, hi⟩
  · simp only [List.cons.injEq, Value.slice.injEq, and_true] at hcs
    obtain ⟨rfl, rfl, rfl⟩ := hcs
    exact ⟨[], ⟨rfl, Nat.le_refl _, Nat.zero_le _, LRowI.nil _ _ _, (fun l h => by cases h), fun l h => by cases h⟩, one_le_bulk _, .inl ⟨by rw [hx], rfl⟩⟩
  · simp only [List.cons.injEq, Value.slice.injEq, and_true] at hcs
    obtain ⟨rfl, rfl, rfl⟩ := hcs
    have hnm : n ≤ m := by rw [hmm]; split <;> omega
    have each : ∀ i, i < n → ∃ l A' c', V i = .slice A' l.length c' ∧ ItemsIn w A' l.length c' l ∧ bulk_items l + 1 ≤ Rows.uptoBulk (D i) := by
      intro i hin
      obtain ⟨_, h2⟩ := hi i (by omega)
      obtain ⟨A', n', c', hv⟩ := items_form h2
      rw [hv] at h2
      obtain ⟨l, hb, hbu, _⟩ := open_items h2
      have hln := hb.is.len
      subst hln
      exact ⟨l, A', c', hv, hb, hbu⟩
    have pick : ∃ f : Nat → List It, ∀ i, i < n → ∃ A' c', V i = .slice A' (f i).length c' ∧ ItemsIn w A' (f i).length c' (f i) ∧ bulk_items (f i) + 1 ≤ Rows.uptoBulk (D i) := by
      refine ⟨fun i => if h : i < n then (each i h).choose else [], fun i hin => ?_⟩
      obtain ⟨A', c', h1, h2, h3⟩ := (each i hin).choose_spec
      refine ⟨A', c', ?_⟩
      simp only [hin, dif_pos]
      exact ⟨h1, h2, h3⟩
    obtain ⟨f, hf⟩ := pick
    refine ⟨(List.range n).map f, ⟨by simp, hl, hm, ?_, ?_, ?_⟩, ?_, .inr ⟨_, _, by rw [hx], by simp⟩⟩
    · intro i l hil
      simp only [List.getElem?_map, Option.map_eq_some_iff] at hil
      obtain ⟨j, hj, rfl⟩ := hil
      have hjn := List.getElem?_eq_some_iff.1 hj
      obtain ⟨hlt, hji⟩ := hjn
      simp at hlt hji
      subst hji
      obtain ⟨A', c', h1, h2, _⟩ := hf i hlt
      obtain ⟨hc1, _⟩ := hi i (by omega)
      rw [h1] at hc1
      refine ⟨a, A', c', rfl, ?_, hc1, h2.is⟩
      have := World.block_lt_of_cell? w _ hc1
      rwa [add_block] at this
    · intro l hl x hx
      obtain ⟨i, hi1, rfl⟩ := List.mem_map.1 hl
      obtain ⟨_, _, _, h2, _⟩ := hf i (by simpa using hi1)
      exact h2.seq x hx
    · intro l hl x hx
      obtain ⟨i, hi1, rfl⟩ := List.mem_map.1 hl
      obtain ⟨_, _, _, h2, _⟩ := hf i (by simpa using hi1)
      exact h2.kln x hx
    · rw [hx]
      have key : ∀ ks : List Nat, (∀ k ∈ ks, k < n) → bulk_litems (ks.map f) ≤ Rows.uptoBulkAll (ks.map D) := by
        intro ks
        induction ks with
        | nil => intro _; simp [bulk_litems]
        | cons k ks ih =>
          intro hks
          have h1 := ih (fun j hj => hks j (by simp [hj]))
          obtain ⟨_, _, _, _, h3⟩ := hf k (hks k (by simp))
          simp only [List.map_cons, bulk_litems, Rows.uptoBulkAll]
          omega
      have h1 := key (List.range n) (fun k hk => by simpa using hk)
      simp only [Rows.uptoBulk]
      omega
end
end Go.Proofs.Ytemckkcbakccnaa
namespace Go.Proofs.Ytemckkcbakccnaa
open Go.RowKit
set_option linter.unusedVariables false
attribute [local go_sem] Oper.semAt_some
abbrev qM : It := ⟨[113], 0, false, []⟩
theorem load_boxM {W : World} {b : Nat} {v : Value} (h : W.cell? ⟨b, 0, none⟩ = some v) : (loadVar 4 ⟨b, 0, none⟩).run Try.prog W = .ok v W := by
  simp [loadVar, isAgg, Sem.run_bind, run_underlying Try.underlying4 W, h]
/-- a row of one item, by its block -/
theorem irow_block {W : World} {g : Nat} {x : It} {e : TypeId} {fr : Nat × Nat} (h : W.heap[g]? = some (.cells #[.string ⟨x.key.toArray⟩, .int .u64 (x.seq : Int), .bool x.gone, .string ⟨x.val.toArray⟩] e fr)) : IRow W (g + 1) (some ⟨g, 0, none⟩) [x] := fun j u hu => by
  rw [itvs_one] at hu
  refine ⟨⟨g, 0, none⟩, rfl, Nat.lt_succ_self _, ?_⟩
  rw [add_off, Nat.zero_add, cell_blk h]
  rw [← Array.getElem?_toList]
  exact hu
theorem own_some {w : World} {base n cap : Nat} {A : Option Addr} {l : List It} (h : OwnI w base A (n + 1) cap l) : ∃ g o, A = some ⟨g, o, none⟩ := by
  have hc := h.le.1
  rcases h.2.2.2 with ⟨_, h0⟩ | ⟨g, o, _, _, e, _⟩
  · omega
  · exact ⟨g, o, e⟩
theorem flat_le : ∀ {ll : List (List It)}, (∀ l ∈ ll, l.length ≤ 60) → ll.flatten.length ≤ 60 * ll.length
  | [], _ => by simp
  | l :: r, h => by
    have h1 := flat_le (ll := r) fun m hm => h m (by simp [hm])
    have h2 := h l (by simp)
    rw [List.flatten_cons, List.length_append, List.length_cons]
    omega
theorem mergeL_len (ll : List (List It)) : (MrgP.mergeL ll).length ≤ ll.flatten.length := by
  unfold MrgP.mergeL
  split
  · rw [SymP.fold_compact]; exact SymP.foldP_len _
  · simp
set_option maxRecDepth 100000 in
set_option maxHeartbeats 8000000 in
theorem mergeMerges_walk (A0 : Option Addr) (n0 c0 : Nat) (ll : List (List It)) (a1 : Int) (w : World) (b0 : LItemsIn w A0 n0 c0 ll) (z0 : n0 * 24 ≤ 140737488351232) (w1 : (Lit.int .i64 a1).wf = true) (hup : bulk_litems ll ≤ 1048576) :
    Calls Try.prog 4 #[.slice A0 n0 c0, .int .i64 a1] w fun e w' => e = .returned (.bool true) ∧ Below w.heap.size w w' := by
  have hl := b0.len
  have hm := b0.le
  have HR := Lib.hid b0.row
  clear b0 hup z0
  obtain ⟨wL, hwL⟩ : ∃ W, W = (w.alloc (.cells #[.int .i64 a1] 3)).alloc (.cells #[.bool false] 4) := ⟨_, rfl⟩
  have HGL := Lib.hid (show Grew w wL by rw [hwL]; exact (grew_new w _).trans (grew_new _ _))
  have HB3 := Lib.hid (show Boxed wL w.heap.size 3 (.int .i64 a1) by rw [hwL]; exact (Boxed.new w _ _).alloc _)
  have HB4 := Lib.hid (show Boxed wL (w.heap.size + 1) 4 (.bool false) by rw [hwL]; have := Boxed.new (w.alloc (.cells #[.int .i64 a1] 3)) 4 (.bool false); simpa using this)
  have HWL := Lib.hid hwL
  have HAw := Lib.hid (awake10 wL)
  clear hwL
  refine calls_marks Try.func4 rfl ?_
  simp only [Try.ntmps4, List.size_toArray, List.length_cons, List.length_nil, Nat.reduceAdd, Nat.reduceSub, Array.replicate_succ, Array.replicate_zero, List.push_toArray, List.append_toArray, List.nil_append, List.cons_append]
  go_upto_region 1 with fail
  rw [← HWL.out]
  obtain ⟨b3, hb3⟩ : ∃ b, b = w.heap.size := ⟨_, rfl⟩
  obtain ⟨b4, hb4⟩ : ∃ b, b = w.heap.size + 1 := ⟨_, rfl⟩
  rw [← hb3] at HB3
  rw [← hb4] at HB4
  rw [← hb4, ← hb3]
  have HBB := Lib.hid (And.intro hb3 hb4)
  clear hb3 hb4 HWL
  go_upto_region 3 with (go_at_call 9; ((with_reducible refine HAw.out.mono ?_); rintro e w1 ⟨rfl, hG⟩; have HG1 := Lib.hid (show Grew wL w1 from hG); clear hG))
  have HB31 := Lib.hid (hBx2 HB3.out HG1.out)
  have HB41 := Lib.hid (hBx2 HB4.out HG1.out)
  have HGw1 := Lib.hid (HGL.out.trans HG1.out)
  clear HB3 HB4 HGL HG1 HAw
  by_cases hbig : 12 < n0
  · have i1 : (12 : Int) < (n0 : Int) := by omega
    have c4 := HB41.out.cell
    have f4 := HB41.out.frozen
    go_wp2_with fail
    have HBt := Lib.hid (HB41.out.set (.bool true))
    have HGt := Lib.hid (Below.setCell (p := ⟨b4, 0, none⟩) (show Below w.heap.size w w1 from HGw1.out) (by have := HBB.out.2; show w.heap.size ≤ b4; omega) (.bool true))
    refine postM_retC (v := .bool true) (D := w1.heap.size) (W := w1.setCell ⟨b4, 0, none⟩ (.bool true)) (Marks.nil _ _) (by simp) fun W' ha => ?_
    have hc := load_boxM (ha.boxed HBt.out).cell
    exact ⟨by simp [results, Try.results4, asAddr, hc], rfl, ha.kept HGt.out HGw1.out.size⟩
  have i1 : ¬ (12 : Int) < (n0 : Int) := by omega
  have HR1 := Lib.hid (HR.out.below HGw1.out)
  have HBel := Lib.hid (fun W (hW : Grew w1 W) => show Below w.heap.size w W from (show Below w.heap.size w w1 from HGw1.out).trans (Below.mono hW HGw1.out.size))
  have HC1 := Lib.hid (Copies.nil w1 w1.heap.size)
  obtain ⟨B, hB⟩ : ∃ b, b = w1.heap.size := ⟨_, rfl⟩
  rw [← hB] at HC1
  have HB := Lib.hid hB
  clear hB
  go_upto_block 0 with fail
  go_cut [5, 6] from 22 (fun s a wy => ∃ (A1 : Option Addr) (c1 : Nat) (rs : List Cp), s = .bool (ll.all ItP.srt) ∧ a = .slice A1 n0 c1 ∧ Copies wy B A1 n0 c1 rs ∧ rs.map (·.l) = ll ∧ (∀ l ∈ ll, l.length ≤ 60) ∧ Grew w1 wy)
  case first =>
    go_wp2_with fail
    go_loopw [5, 6, 7] (fun s a i wy => ∃ (k : Nat) (A1 : Option Addr) (c1 : Nat) (rs : List Cp), k ≤ n0 ∧ i = .int .i64 (k : Int) ∧ s = .bool ((ll.take k).all ItP.srt) ∧ a = .slice A1 k c1 ∧ Copies wy B A1 k c1 rs ∧ rs.map (·.l) = ll.take k ∧ (∀ l ∈ ll.take k, l.length ≤ 60) ∧ Grew w1 wy) (fun _ _ i _ => n0 - (intOf i).toNat)
    case atStart => exact ⟨0, none, 0, [], Nat.zero_le _, rfl, rfl, rfl, HC1.out, rfl, (fun l h => by simp at h), Grew.refl _⟩
    case round =>
      obtain ⟨k, A1, c1, rs, hk, rfl, rfl, rfl, hC, hrs, h60, hG⟩ := hrel
      have HCo := Lib.hid hC
      have HRs := Lib.hid hrs
      have H60 := Lib.hid h60
      have HGr := Lib.hid hG
      clear hC hrs h60 hG
      have i2 : (0 : Int) ≤ (k : Int) := by omega
      by_cases hlt : k < n0
      · obtain ⟨l, hl⟩ : ∃ l, ll[k]? = some l := ⟨_, List.getElem?_eq_getElem (by omega)⟩
        obtain ⟨ad, A', c', rfl, hab, hc, hIs⟩ := HR1.out k l hl
        have hcr : wr.cell? (ad.add k) = some (.slice A' l.length c') := by rw [HGr.out.cell (by rw [add_block]; exact Nat.lt_of_lt_of_le hab HGw1.out.size)]; exact hc
        have i3 : (k : Int) < (n0 : Int) := by omega
        have HIs := Lib.hid hIs
        have HLl := Lib.hid hl
        have HHc := Lib.hid (And.intro hab hc)
        clear hIs hc hab hl
        by_cases hl60 : 60 < l.length
        · have i4 : (60 : Int) < (l.length : Int) := by omega
          have HB4r := Lib.hid (hBx2 HB41.out HGr.out)
          have c4 := HB4r.out.cell
          have f4 := HB4r.out.frozen
          go_wp2_with fail
          have HBt := Lib.hid (HB4r.out.set (.bool true))
          have HGt := Lib.hid (Below.setCell (p := ⟨b4, 0, none⟩) ((show Below w.heap.size w w1 from HGw1.out).trans (HGr.out.mono HGw1.out.size)) (by have := HBB.out.2; show w.heap.size ≤ b4; omega) (.bool true))
          refine postM_retC (v := .bool true) (D := wr.heap.size) (W := wr.setCell ⟨b4, 0, none⟩ (.bool true)) (Marks.nil _ _) (by simp) fun W' ha => ?_
          have hc := load_boxM (ha.boxed HBt.out).cell
          exact ⟨by simp [results, Try.results4, asAddr, hc], rfl, ha.kept HGt.out (Nat.le_trans HGw1.out.size HGr.out.size)⟩
        have i4 : ¬ (60 : Int) < (l.length : Int) := by omega
        go_upto_region 12 with fail
        go_cut [5] from 34 to 41 (fun s wy => s = .bool ((ll.take (k + 1)).all ItP.srt) ∧ Grew wr wy)
        case first =>
          have HA := Lib.hid (all_take_add HLl.out)
          obtain ⟨b, hb⟩ : ∃ b, b = (ll.take k).all ItP.srt := ⟨_, rfl⟩
          obtain ⟨b2, hb2⟩ : ∃ b, b = ItP.srt l := ⟨_, rfl⟩
          have HSr : Hid (Calls Try.prog 14 #[.slice A' l.length c'] wr fun e w' => e = .returned (.bool b2) ∧ Grew wr w') := Lib.hid (by rw [hb2]; exact ref_sorted A' l.length c' l wr ((HIs.out.below (Below.mono HGr.out HGw1.out.size)).more (Nat.le_trans HGw1.out.size HGr.out.size)) (by omega))
          rw [← hb, ← hb2] at HA
          rw [← hb]
          clear hb hb2
          cases b
          · go_wp2_with fail
            go_meet
            case rel => exact ⟨by rw [HA.out]; rfl, Grew.refl _⟩
          · go_wp2_with (go_at_call 14; ((with_reducible refine HSr.out.mono ?_); rintro e w2 ⟨rfl, hG⟩; have HG2 := Lib.hid hG; clear hG))
            go_meet
            case rel => exact ⟨by rw [HA.out, Bool.true_and], HG2.out⟩
        case rest =>
        obtain ⟨rfl, hG⟩ := hcut
        have HGc := Lib.hid (HGr.out.trans hG)
        have HCc := Lib.hid (HCo.out.grew hG)
        have HCl := Lib.hid (fun V (hV : Grew w1 V) => show V.cell? (ad.add k) = some (.slice A' l.length c') from by rw [hV.cell (by rw [add_block]; exact Nat.lt_of_lt_of_le HHc.out.1 HGw1.out.size)]; exact HHc.out.2)
        have HRow := Lib.hid (fun V (hV : Grew w1 V) => show IRow V w.heap.size A' l from (HIs.out.below (Below.mono hV HGw1.out.size)).row)
        have hqq := And.intro hlt (fun V : { V : World // Grew w1 V } => HCl.out V.1 V.2)
        have HBc := Lib.hid (show B ≤ wc.heap.size by rw [HB.out]; exact HGc.out.size)
        go_upto_region 13 with fail
        have HD := Lib.hid (Grew.drewN wc 1)
        have HC := Lib.hid (HGc.out.trans HD.out)
        refine wp_region_c (fun V => Grew w1 V) (by kernel_rfl) HC.out ?_
        (refine wpAnyC_free 0 (oi := ⟨some 42, _, _, _, _, _⟩) (v := ?_) rfl (by kernel_rfl) (by kernel_rfl) (by kernel_rfl) HC.out rfl (fun x => ?_) ?_; rotate_left; (focus (simp [go_sem]; (try go_ints); first | done | (with_reducible rfl))); (simp only [Act.put, List.setIfInBounds_toArray, List.set_cons_succ, List.set_cons_zero]))
        (refine wpAnyC_free 2 (oi := ⟨some 44, _, _, _, _, _⟩) (v := ?_) rfl (by kernel_rfl) (by kernel_rfl) (by kernel_rfl) HC.out rfl (fun x => ?_) ?_; rotate_left; (focus (simp [go_sem]; (try go_ints); first | done | (with_reducible rfl))); (simp only [Act.put, List.setIfInBounds_toArray, List.set_cons_succ, List.set_cons_zero]))
        (refine wpAnyC_free 3 (oi := ⟨some 45, _, _, _, _, _⟩) (v := ?_) rfl (by kernel_rfl) (by kernel_rfl) (by kernel_rfl) HC.out rfl (fun x => ?_) ?_; rotate_left; (focus (simp [go_sem]; (try go_ints); first | done | (with_reducible rfl))); (simp only [Act.put, List.setIfInBounds_toArray, List.set_cons_succ, List.set_cons_zero]))
        (refine wpAnyC_free 4 (oi := ⟨some 46, _, _, _, _, _⟩) (v := ?_) rfl (by kernel_rfl) (by kernel_rfl) (by kernel_rfl) HC.out rfl (fun x => ?_) ?_; rotate_left; (focus (simp [go_sem, hqq]; (try go_ints); first | done | (with_reducible rfl))); (simp only [Act.put, List.setIfInBounds_toArray, List.set_cons_succ, List.set_cons_zero]))
        (refine wpAnyC_free 5 (oi := ⟨some 47, _, _, _, _, _⟩) (v := ?_) rfl (by kernel_rfl) (by kernel_rfl) (by kernel_rfl) HC.out rfl (fun x => ?_) ?_; rotate_left; (focus (simp [go_sem, hqq]; (try go_ints); first | done | (with_reducible rfl))); (simp only [Act.put, List.setIfInBounds_toArray, List.set_cons_succ, List.set_cons_zero]))
        (refine wpAnyC_free 7 (oi := ⟨some 49, _, _, _, _, _⟩) (v := ?_) rfl (by kernel_rfl) (by kernel_rfl) (by kernel_rfl) HC.out rfl (fun x => ?_) ?_; rotate_left; (focus (simp [go_sem]; (try go_ints); first | done | (with_reducible rfl))); (simp only [Act.put, List.setIfInBounds_toArray, List.set_cons_succ, List.set_cons_zero]))
        (refine wpAnyC_free 10 (oi := ⟨some 52, _, _, _, _, _⟩) (v := ?_) rfl (by kernel_rfl) (by kernel_rfl) (by kernel_rfl) HC.out rfl (fun x => ?_) ?_; rotate_left; (focus (simp [go_sem]; (try go_ints); first | done | (with_reducible rfl))); (simp only [Act.put, List.setIfInBounds_toArray, List.set_cons_succ, List.set_cons_zero]))
        (refine wpAnyC_free 11 (oi := ⟨some 53, _, _, _, _, _⟩) (v := ?_) rfl (by kernel_rfl) (by kernel_rfl) (by kernel_rfl) HC.out rfl (fun x => ?_) ?_; rotate_left; (focus (simp [go_sem]; (try go_ints); first | done | (with_reducible rfl))); (simp only [Act.put, List.setIfInBounds_toArray, List.set_cons_succ, List.set_cons_zero]))
        (refine wpAnyC_free 12 (oi := ⟨some 54, _, _, _, _, _⟩) (v := ?_) rfl (by kernel_rfl) (by kernel_rfl) (by kernel_rfl) HC.out rfl (fun x => ?_) ?_; rotate_left; (focus (simp [go_sem, hqq]; (try go_ints); first | done | (with_reducible rfl))); (simp only [Act.put, List.setIfInBounds_toArray, List.set_cons_succ, List.set_cons_zero]))
        (refine wpAnyC_free 13 (oi := ⟨some 55, _, _, _, _, _⟩) (v := ?_) rfl (by kernel_rfl) (by kernel_rfl) (by kernel_rfl) HC.out rfl (fun x => ?_) ?_; rotate_left; (focus (simp [go_sem, hqq]; (try go_ints); first | done | (with_reducible rfl))); (simp only [Act.put, List.setIfInBounds_toArray, List.set_cons_succ, List.set_cons_zero]))
        (refine wpAnyC_free 14 (oi := ⟨some 56, _, _, _, _, _⟩) (v := ?_) rfl (by kernel_rfl) (by kernel_rfl) (by kernel_rfl) HC.out rfl (fun x => ?_) ?_; rotate_left; (focus (simp [go_sem]; (try go_ints); first | done | (with_reducible rfl))); (simp only [Act.put, List.setIfInBounds_toArray, List.set_cons_succ, List.set_cons_zero]))
        change wpAnyC _ _ _ _ _ _ _ _ (World.drewN wc 1)
        obtain ⟨wd, hwd⟩ : ∃ W, W = World.drewN wc 1 := ⟨_, rfl⟩
        rw [← hwd] at HC HD ⊢
        clear hwd hqq
        refine wpAnyC_fork 1 8 (oi := ⟨some 43, _, _, _, _, _⟩) (oj := ⟨some 50, _, _, _, _, _⟩) rfl rfl (by kernel_rfl) ?pa ?pb
        case' pa =>
          refine cOp_list 1 (o := ⟨some 43, _, _, _, _, _⟩) rfl rfl ?_
          refine wpList_build0 rfl rfl ?_
          have hO := OwnI.empty wd wc.heap.size HD.out.size
          have hD : Grew wc (wd.alloc (.cells #[] 29)) := HD.out.trans (grew_new wd _)
          obtain ⟨g1, hg1⟩ : ∃ b, b = wd.heap.size := ⟨_, rfl⟩
          rw [← hg1] at hO ⊢
          generalize wd.alloc (.cells #[] 29) = wa at hO hD ⊢
          have HO := Lib.hid hO
          have HD := Lib.hid hD
          clear hO hD hg1
          (simp only [Act.put, List.setIfInBounds_toArray, List.set_cons_succ, List.set_cons_zero])
          refine wpList_nil ⟨rfl, HGc.out.trans HD.out, ?_⟩
          refine wpAnyC_fork 6 8 (oi := ⟨some 48, _, _, _, _, _⟩) (oj := ⟨some 50, _, _, _, _, _⟩) rfl rfl (by kernel_rfl) ?pc ?pd
        case' pc =>
          refine cOp_list 6 (o := ⟨some 48, _, _, _, _, _⟩) rfl rfl ?_
          refine wpList_appI rfl (.tmp 43) (.tmp 47) rfl wc.heap.size _ 0 0 [] rfl HO.out A' l.length c' w.heap.size l rfl rfl (HRow.out _ (HGc.out.trans HD.out)) (by omega) HD.out.size ?_
          intro A4 c4 w4 hO4 hg4 hB4 _
          have HO4 := Lib.hid (show OwnI w4 wc.heap.size A4 l.length c4 l by simpa using hO4)
          have HD := Lib.hid (show Grew wc w4 from Below.trans (show Below wc.heap.size wc wa from HD.out) hB4)
          clear hO4 hg4 hB4
          (simp only [Act.put, List.setIfInBounds_toArray, List.set_cons_succ, List.set_cons_zero])
          (simp only [Nat.zero_add])
          refine wpList_nil ⟨rfl, HGc.out.trans HD.out, ?_⟩
          refine wpAnyC_step 8 (o := ⟨some 50, _, _, _, _, _⟩) rfl (by kernel_rfl) rfl ?_
          refine wpList_value (o := ⟨some 50, _, _, _, _, _⟩) (v := .slice (some ⟨w4.heap.size, 0, none⟩) 1 1) (w' := w4.alloc (.cells #[.string ⟨#[113]⟩, .int .u64 0, .bool false, .string ⟨#[]⟩] 29)) rfl (by kernel_rfl) ?_
          have hQ : (w4.alloc (.cells #[.string ⟨#[113]⟩, .int .u64 0, .bool false, .string ⟨#[]⟩] 29)).heap[w4.heap.size]? = some (.cells #[.string ⟨#[113]⟩, .int .u64 0, .bool false, .string ⟨#[]⟩] 29) := heap_alloc_new w4 _
          have hD : Grew wc (w4.alloc (.cells #[.string ⟨#[113]⟩, .int .u64 0, .bool false, .string ⟨#[]⟩] 29)) := HD.out.trans (grew_new w4 _)
          have hO := HO4.out.alloc (.cells #[.string ⟨#[113]⟩, .int .u64 0, .bool false, .string ⟨#[]⟩] 29)
          obtain ⟨g8, hg8⟩ : ∃ b, b = w4.heap.size := ⟨_, rfl⟩
          rw [← hg8] at hQ ⊢
          generalize w4.alloc (.cells #[.string ⟨#[113]⟩, .int .u64 0, .bool false, .string ⟨#[]⟩] 29) = w5 at hQ hD hO ⊢
          have HQ := Lib.hid hQ
          have HD := Lib.hid hD
          have HO4 := Lib.hid hO
          clear hQ hD hg8 hO
          (simp only [Act.put, List.setIfInBounds_toArray, List.set_cons_succ, List.set_cons_zero])
          refine wpList_nil ⟨rfl, HGc.out.trans HD.out, ?_⟩
        case' pd =>
          refine cOp_list 8 (o := ⟨some 50, _, _, _, _, _⟩) rfl rfl ?_
          refine wpList_value (o := ⟨some 50, _, _, _, _, _⟩) (v := .slice (some ⟨wa.heap.size, 0, none⟩) 1 1) (w' := wa.alloc (.cells #[.string ⟨#[113]⟩, .int .u64 0, .bool false, .string ⟨#[]⟩] 29)) rfl (by kernel_rfl) ?_
          have hQ : (wa.alloc (.cells #[.string ⟨#[113]⟩, .int .u64 0, .bool false, .string ⟨#[]⟩] 29)).heap[wa.heap.size]? = some (.cells #[.string ⟨#[113]⟩, .int .u64 0, .bool false, .string ⟨#[]⟩] 29) := heap_alloc_new wa _
          have hD : Grew wc (wa.alloc (.cells #[.string ⟨#[113]⟩, .int .u64 0, .bool false, .string ⟨#[]⟩] 29)) := HD.out.trans (grew_new wa _)
          have hO := HO.out.alloc (.cells #[.string ⟨#[113]⟩, .int .u64 0, .bool false, .string ⟨#[]⟩] 29)
          have hne : wa.heap.size ≠ g1 := fun e => by have := (Own.lt HO.out g1 rfl).2; omega
          obtain ⟨g8, hg8⟩ : ∃ b, b = wa.heap.size := ⟨_, rfl⟩
          rw [← hg8] at hQ hne ⊢
          generalize wa.alloc (.cells #[.string ⟨#[113]⟩, .int .u64 0, .bool false, .string ⟨#[]⟩] 29) = w4 at hQ hD hO ⊢
          have HQ := Lib.hid hQ
          have HD := Lib.hid hD
          have HO := Lib.hid hO
          have HNe := Lib.hid hne
          clear hQ hD hg8 hO hne
          (simp only [Act.put, List.setIfInBounds_toArray, List.set_cons_succ, List.set_cons_zero])
          refine wpList_nil ⟨rfl, HGc.out.trans HD.out, ?_⟩
          refine wpAnyC_step 6 (o := ⟨some 48, _, _, _, _, _⟩) rfl (by kernel_rfl) rfl ?_
          refine wpList_appI rfl (.tmp 43) (.tmp 47) rfl wc.heap.size _ 0 0 [] rfl HO.out A' l.length c' w.heap.size l rfl rfl (HRow.out _ (HGc.out.trans HD.out)) (by omega) HD.out.size ?_
          intro A4 c4 w5 hO4 hg4 hB4 _
          have HO4 := Lib.hid (show OwnI w5 wc.heap.size A4 l.length c4 l by simpa using hO4)
          have HQ := Lib.hid ((hg4.block g8 (lt_of_blk HQ.out) (fun e => by simp [blk] at e; exact HNe.out e)).trans HQ.out)
          have HD := Lib.hid (show Grew wc w5 from Below.trans (show Below wc.heap.size wc w4 from HD.out) hB4)
          clear hO4 hg4 hB4
          (simp only [Act.put, List.setIfInBounds_toArray, List.set_cons_succ, List.set_cons_zero])
          (simp only [Nat.zero_add])
          refine wpList_nil ⟨rfl, HGc.out.trans HD.out, ?_⟩
        case' pb =>
          refine cOp_list 8 (o := ⟨some 50, _, _, _, _, _⟩) rfl rfl ?_
          refine wpList_value (o := ⟨some 50, _, _, _, _, _⟩) (v := .slice (some ⟨wd.heap.size, 0, none⟩) 1 1) (w' := wd.alloc (.cells #[.string ⟨#[113]⟩, .int .u64 0, .bool false, .string ⟨#[]⟩] 29)) rfl (by kernel_rfl) ?_
          have hQ : (wd.alloc (.cells #[.string ⟨#[113]⟩, .int .u64 0, .bool false, .string ⟨#[]⟩] 29)).heap[wd.heap.size]? = some (.cells #[.string ⟨#[113]⟩, .int .u64 0, .bool false, .string ⟨#[]⟩] 29) := heap_alloc_new wd _
          have hD : Grew wc (wd.alloc (.cells #[.string ⟨#[113]⟩, .int .u64 0, .bool false, .string ⟨#[]⟩] 29)) := HD.out.trans (grew_new wd _)
          obtain ⟨g8, hg8⟩ : ∃ b, b = wd.heap.size := ⟨_, rfl⟩
          rw [← hg8] at hQ ⊢
          generalize wd.alloc (.cells #[.string ⟨#[113]⟩, .int .u64 0, .bool false, .string ⟨#[]⟩] 29) = wa at hQ hD ⊢
          have HQ := Lib.hid hQ
          have HD := Lib.hid hD
          clear hQ hD hg8
          (simp only [Act.put, List.setIfInBounds_toArray, List.set_cons_succ, List.set_cons_zero])
          refine wpList_nil ⟨rfl, HGc.out.trans HD.out, ?_⟩
          refine wpAnyC_step 1 (o := ⟨some 43, _, _, _, _, _⟩) rfl (by kernel_rfl) rfl ?_
          refine wpList_build0 rfl rfl ?_
          have hO := OwnI.empty wa wc.heap.size HD.out.size
          have hD : Grew wc (wa.alloc (.cells #[] 29)) := HD.out.trans (grew_new wa _)
          have hQ := (Below.heap_alloc wa (.cells #[] 29) g8 (lt_of_blk HQ.out)).trans HQ.out
          have hne : g8 ≠ wa.heap.size := fun e => by have := lt_of_blk HQ.out; omega
          obtain ⟨g1, hg1⟩ : ∃ b, b = wa.heap.size := ⟨_, rfl⟩
          rw [← hg1] at hO hne ⊢
          generalize wa.alloc (.cells #[] 29) = w4 at hO hD hQ ⊢
          have HO := Lib.hid hO
          have HD := Lib.hid hD
          have HQ := Lib.hid hQ
          have HNe := Lib.hid hne
          clear hO hD hg1 hQ hne
          (simp only [Act.put, List.setIfInBounds_toArray, List.set_cons_succ, List.set_cons_zero])
          refine wpList_nil ⟨rfl, HGc.out.trans HD.out, ?_⟩
          refine wpAnyC_step 6 (o := ⟨some 48, _, _, _, _, _⟩) rfl (by kernel_rfl) rfl ?_
          refine wpList_appI rfl (.tmp 43) (.tmp 47) rfl wc.heap.size _ 0 0 [] rfl HO.out A' l.length c' w.heap.size l rfl rfl (HRow.out _ (HGc.out.trans HD.out)) (by omega) HD.out.size ?_
          intro A4 c4 w5 hO4 hg4 hB4 _
          have HO4 := Lib.hid (show OwnI w5 wc.heap.size A4 l.length c4 l by simpa using hO4)
          have HQ := Lib.hid ((hg4.block g8 (lt_of_blk HQ.out) (fun e => by simp [blk] at e; exact HNe.out e)).trans HQ.out)
          have HD := Lib.hid (show Grew wc w5 from Below.trans (show Below wc.heap.size wc w4 from HD.out) hB4)
          clear hO4 hg4 hB4
          (simp only [Act.put, List.setIfInBounds_toArray, List.set_cons_succ, List.set_cons_zero])
          (simp only [Nat.zero_add])
          refine wpList_nil ⟨rfl, HGc.out.trans HD.out, ?_⟩
        all_goals (
          refine wpAnyC_step 9 (o := ⟨some 51, _, _, _, _, _⟩) rfl (by kernel_rfl) rfl ?_
          refine wpList_appI rfl (.tmp 48) (.tmp 50) rfl wc.heap.size A4 l.length c4 l rfl HO4.out (some ⟨g8, 0, none⟩) 1 1 (g8 + 1) [qM] rfl rfl (irow_block HQ.out) (by omega) HD.out.size ?_
          intro A5 c5 w6 hO5 hg5 hB5 _
          obtain ⟨g5, o5, rfl⟩ := own_some hO5
          have HD := Lib.hid (show Grew wc w6 from Below.trans (show Below wc.heap.size wc w5 from HD.out) hB5)
          have hle := hO5.le
          have HO6 := Lib.hid (show OwnI w6 wc.heap.size (some ⟨g5, o5, none⟩) l.length c5 l by
            have h := Own.pre hO5 (Nat.le_succ l.length)
            rw [itvs_take, List.take_left] at h
            exact h)
          clear hO5 hg5 hB5
          (simp only [Act.put, List.setIfInBounds_toArray, List.set_cons_succ, List.set_cons_zero])
          refine wpList_nil ⟨rfl, HGc.out.trans HD.out, ?_⟩
          refine wpAnyC_step 15 (o := ⟨some 57, _, _, _, _, _⟩) rfl (by kernel_rfl) rfl ?_
          refine wpList_value (o := ⟨some 57, _, _, _, _, _⟩) rfl (exec_toI (.tmp 51) (.tmp 56) rfl rfl rfl (by omega) hle.1 hle.2 _) ?_
          (simp only [Act.put, List.setIfInBounds_toArray, List.set_cons_succ, List.set_cons_zero])
          refine wpList_nil ⟨rfl, HGc.out.trans HD.out, ?_⟩
          refine wpAnyC_step 16 (o := ⟨some 58, _, _, _, _, _⟩) rfl (by kernel_rfl) rfl ?_
          refine wpList_value (o := ⟨some 58, _, _, _, _, _⟩) (v := .slice (some ⟨w6.heap.size, 0, none⟩) 1 1) (w' := w6.alloc (.cells #[.slice (some ⟨g5, o5, none⟩) l.length c5] 23)) rfl (by kernel_rfl) ?_
          (simp only [Act.put, List.setIfInBounds_toArray, List.set_cons_succ, List.set_cons_zero])
          refine wpList_nil ⟨rfl, HGc.out.trans (HD.out.trans (grew_new w6 _)), ?_⟩
          refine wpAnyC_step 17 (o := ⟨some 59, _, _, _, _, _⟩) rfl (by kernel_rfl) rfl ?_
          refine wpList_appn1 rfl (.tmp 42) (.tmp 58) 30 23 (.slice none 0 0) 24 rfl Try.underlying30 (by kernel_rfl) rfl (by omega) B A1 k c1 (rs.map Cp.v) rfl (Own.alloc (HCc.out.grew HD.out).row _) 1 [Cp.v ⟨g5, o5, c5, l⟩] (Src.slice rfl (Row.new w6 _ _ _ (w6.heap.size + 1) w6.heap.size rfl (by omega) _ rfl)) (by intro u hu; simp at hu; subst hu; rfl) (k + 1) rfl _ rfl (by omega) (by have := HBc.out; have := HD.out.size; simp; omega) ?_
          intro A2 c2 w7 hO7 hg7 hB7 hor7
          have HC7 := Lib.hid (HCc.out.add (r := ⟨g5, o5, c5, l⟩) HD.out HBc.out HO6.out hO7 rfl hg7)
          have HC := Lib.hid (show Grew w1 w7 from Below.trans (show Below w1.heap.size w1 _ from HGc.out.trans (HD.out.trans (grew_new w6 _))) (by rw [← HB.out]; exact hB7))
          clear hO7 hg7 hB7 hor7 hle
          (simp only [Act.put, List.setIfInBounds_toArray, List.set_cons_succ, List.set_cons_zero])
          refine wpList_nil ⟨rfl, HC.out, ?_⟩
          (refine wpAnyC_free 18 (oi := ⟨some 6, _, _, _, _, _⟩) (v := ?_) rfl (by kernel_rfl) (by kernel_rfl) (by kernel_rfl) HC.out rfl (fun x => ?_) ?_; rotate_left; (focus (simp [go_sem]; (try go_ints); first | done | (with_reducible rfl))); (simp only [Act.put, List.setIfInBounds_toArray, List.set_cons_succ, List.set_cons_zero]))
          refine wpAnyC_done (by kernel_rfl) (fun _ => ?_) _
          go_wp2_with fail
          go_roundw
          case rel => exact ⟨k + 1, A2, c2, rs ++ [⟨g5, o5, c5, l⟩], hlt, by go_num, rfl, rfl, HC7.out, by rw [List.map_append, HRs.out, List.take_add_one, HLl.out]; rfl, fun m hm => by
            rw [List.take_add_one, HLl.out] at hm
            rcases List.mem_append.1 hm with hm | hm
            · exact H60.out m hm
            · simp at hm
              rw [hm]
              omega, HC.out⟩
          case measure => simp [intOf]; omega)
      · obtain rfl : k = n0 := by omega
        have i3 : ¬ (k : Int) < (k : Int) := by omega
        have HT := Lib.hid (show ll.take k = ll from List.take_of_length_le (by omega))
        go_wp2_with fail
        go_meet
        case rel => exact ⟨A1, c1, rs, by rw [HT.out], rfl, HCo.out, by rw [HRs.out, HT.out], fun l hl => H60.out l (by rw [HT.out]; exact hl), HGr.out⟩
  case rest =>
  rename World => wC
  obtain ⟨A1, c1, rs, rfl, rfl, hC, hrs, h60, hG⟩ := hcut
  have HCo := Lib.hid hC
  have HRs := Lib.hid hrs
  have HGc := Lib.hid hG
  have hfl : ll.flatten.length ≤ 720 := by have := flat_le h60; omega
  obtain ⟨L, hL⟩ : ∃ L, L = MrgP.mergeL ll := ⟨_, rfl⟩
  obtain ⟨E, hE⟩ : ∃ E, E = MrgP.mergeE ll := ⟨_, rfl⟩
  have HLe := Lib.hid (show L.length ≤ 720 by rw [hL]; exact Nat.le_trans (mergeL_len ll) hfl)
  have HSL := Lib.hid (show (ll.all ItP.srt = true → E = 0 ∧ L = SymP.foldP ll.flatten) ∧ (ll.all ItP.srt = false → E = 15 ∧ L = []) by
    rw [hL, hE]
    refine ⟨fun h => ?_, fun h => ?_⟩
    · unfold MrgP.mergeE MrgP.mergeL
      rw [if_pos h, if_pos h, SymP.fold_compact]
      exact ⟨rfl, rfl⟩
    · unfold MrgP.mergeE MrgP.mergeL
      rw [if_neg (by rw [h]; decide), if_neg (by rw [h]; decide)]
      exact ⟨rfl, rfl⟩)
  have HMr := Lib.hid (fun W (hW : Grew wC W) => show Calls Try.prog 10 #[.slice A1 n0 c1] W fun e w' => ∃ A' n' c', e = .returned (.tuple #[.slice A' n' c', .int .i64 E]) ∧ OwnI w' W.heap.size A' n' c' L ∧ Grew W w' from by
    have := mrg_merge A1 n0 c1 ll W (by have := (HCo.out.grew hW).lrow; rw [HRs.out] at this; exact this) hl (by omega) (by omega)
    rw [← hL, ← hE] at this
    exact this)
  have HWk := Lib.hid (fun W (hW : Grew wC W) => show Calls Try.prog 15 #[.slice A1 n0 c1] W fun e w' => ∃ bs A' n' c', e = .returned (.func (.func 42) #[] #[.pointer (some ⟨bs, 0, none⟩)]) ∧ W.heap.size ≤ bs ∧ Boxed w' bs 23 (.slice A' n' c') ∧ OwnI w' W.heap.size A' n' c' L ∧ Grew W w' from by
    have := mrg_walk A1 n0 c1 ll W (by have := (HCo.out.grew hW).lrow; rw [HRs.out] at this; exact this) hl (by omega) (by omega)
    rw [← hL] at this
    exact this)
  clear hC hrs hG hL hE HC1 h60
  have hfn : ∀ (f : Nat) (A : Array Value) (W : World), (binOp .eql 36 (.func (.func f) #[] A) .nilFunc).run Try.prog W = .ok (.bool false) W := fun f A W => by kernel_rfl
  go_upto_region 18 with (first
    | (go_at_call 10; ((with_reducible refine (HMr.out _ (Grew.refl _)).mono ?_); rintro e w2 ⟨Am, nm, cm, rfl, hO, hG⟩; have HOm := Lib.hid hO; have HG2 := Lib.hid (show Grew wC w2 from hG); clear hO hG))
    | (go_at_call 15; ((with_reducible refine (HWk.out _ HG2.out).mono ?_); rintro e w3 ⟨bs, Aw, nw, cw, rfl, hbs, hBs, hO, hG⟩; have HOw := Lib.hid hO; have HBs := Lib.hid hBs; have HG3 := Lib.hid (show Grew w2 w3 from hG); have HOm := Lib.hid (HOm.out.below_all hG); have Hbs := Lib.hid hbs; clear hO hG hbs hBs)))
  clear hfn HMr HWk
  have HG1' := Lib.hid (HGc.out.trans (HG2.out.trans HG3.out))
  have HSp0 := Lib.hid (HCo.out.grew (HG2.out.trans HG3.out)).spoilt
  have HBs3 := Lib.hid (show B ≤ w3.heap.size by rw [HB.out]; exact HG1'.out.size)
  go_upto_block 2 with fail
  go_cut [] from 69 (fun wy => Spoilt w3 wy B A1 n0 c1 rs n0)
  case first =>
    go_wp2_with fail
    go_loopw [11] (fun i wy => ∃ k : Nat, k ≤ n0 ∧ i = .int .i64 (k : Int) ∧ Spoilt w3 wy B A1 n0 c1 rs k) (fun i _ => n0 - (intOf i).toNat)
    case atStart => exact ⟨0, Nat.zero_le _, rfl, HSp0.out⟩
    case round =>
      obtain ⟨k, hk, rfl, hS⟩ := hrel
      have HS := Lib.hid hS
      have HBr := Lib.hid (Nat.le_trans HBs3.out hS.below.size)
      clear hS
      have i2 : (0 : Int) ≤ (k : Int) := by omega
      by_cases hlt : k < n0
      · obtain ⟨r, hr⟩ : ∃ r, rs[k]? = some r := ⟨_, List.getElem?_eq_getElem (by rw [HCo.out.len]; exact hlt)⟩
        have hlk : ll[k]? = some r.l := by rw [← HRs.out, List.getElem?_map, hr]; rfl
        obtain ⟨g, o, c, l⟩ := r
        obtain ⟨ad, rfl, hab, hc⟩ := HS.out.head hr
        obtain ⟨ad0, A', c', rfl, hab0, hc0, hIs⟩ := HR1.out k l hlk
        have HGr := Lib.hid (show Grew w1 wr from Below.trans (show Below w1.heap.size w1 w3 from HG1'.out) (by rw [← HB.out]; exact HS.out.below))
        have HHc := Lib.hid (fun V (hV : Grew wr V) => show V.cell? (ad.add k) = some (.slice (some ⟨g, o, none⟩) l.length c) from by rw [hV.cell (by rw [add_block]; exact hab)]; exact hc)
        have HHl := Lib.hid (fun V (hV : Grew wr V) => show V.cell? (ad0.add k) = some (.slice A' l.length c') from by rw [(HGr.out.trans hV).cell (by rw [add_block]; exact Nat.lt_of_lt_of_le hab0 HGw1.out.size)]; exact hc0)
        have HIr := Lib.hid (HS.out.one hr)
        have hll : l.length ≤ 720 := Nat.le_trans (len_flat (List.mem_of_getElem? hlk)) hfl
        have HSm := Lib.hid (fun V (hV : Grew wr V) => show Calls Try.prog 16 #[.slice (some ⟨g, o, none⟩) l.length c, .slice A' l.length c'] V fun e w' => e = .returned (.bool true) ∧ Grew V w' from by
          have := ref_same (some ⟨g, o, none⟩) A' l.length c l.length c' l l V (OwnI.is (OwnI.below_all HIr.out hV) (Nat.le_refl _)) ((hIs.below (Below.mono (HGr.out.trans hV) HGw1.out.size)).more (Nat.le_trans HGw1.out.size (HGr.out.trans hV).size))
          rw [decide_eq_true rfl] at this
          exact this)
        have HRk := Lib.hid hr
        have i3 : (k : Int) < (n0 : Int) := by omega
        have hqq := And.intro hlt (And.intro (fun V : { V : World // Grew wr V } => HHc.out V.1 V.2) (fun V : { V : World // Grew wr V } => HHl.out V.1 V.2))
        clear hlk hr hab hc hab0 hc0 hIs
        go_upto_region 21 with fail
        have HC := Lib.hid (Grew.drewN wr 1)
        refine wp_region_c (fun V => Grew wr V) (by kernel_rfl) HC.out ?_
        (refine wpAnyC_free 0 (oi := ⟨some 75, _, _, _, _, _⟩) (v := ?_) rfl (by kernel_rfl) (by kernel_rfl) (by kernel_rfl) HC.out rfl (fun x => ?_) ?_; rotate_left; (focus (simp [go_sem]; (try go_ints); first | done | (with_reducible rfl))); (simp only [Act.put, List.setIfInBounds_toArray, List.set_cons_succ, List.set_cons_zero]))
        (refine wpAnyC_free 1 (oi := ⟨some 76, _, _, _, _, _⟩) (v := ?_) rfl (by kernel_rfl) (by kernel_rfl) (by kernel_rfl) HC.out rfl (fun x => ?_) ?_; rotate_left; (focus (simp [go_sem]; (try go_ints); first | done | (with_reducible rfl))); (simp only [Act.put, List.setIfInBounds_toArray, List.set_cons_succ, List.set_cons_zero]))
        (refine wpAnyC_free 2 (oi := ⟨some 77, _, _, _, _, _⟩) (v := ?_) rfl (by kernel_rfl) (by kernel_rfl) (by kernel_rfl) HC.out rfl (fun x => ?_) ?_; rotate_left; (focus (simp [go_sem, hqq]; (try go_ints); first | done | (with_reducible rfl))); (simp only [Act.put, List.setIfInBounds_toArray, List.set_cons_succ, List.set_cons_zero]))
        (refine wpAnyC_free 3 (oi := ⟨some 78, _, _, _, _, _⟩) (v := ?_) rfl (by kernel_rfl) (by kernel_rfl) (by kernel_rfl) HC.out rfl (fun x => ?_) ?_; rotate_left; (focus (simp [go_sem, hqq]; (try go_ints); first | done | (with_reducible rfl))); (simp only [Act.put, List.setIfInBounds_toArray, List.set_cons_succ, List.set_cons_zero]))
        (refine wpAnyC_free 4 (oi := ⟨some 79, _, _, _, _, _⟩) (v := ?_) rfl (by kernel_rfl) (by kernel_rfl) (by kernel_rfl) HC.out rfl (fun x => ?_) ?_; rotate_left; (focus (simp [go_sem]; (try go_ints); first | done | (with_reducible rfl))); (simp only [Act.put, List.setIfInBounds_toArray, List.set_cons_succ, List.set_cons_zero]))
        (refine wpAnyC_free 5 (oi := ⟨some 80, _, _, _, _, _⟩) (v := ?_) rfl (by kernel_rfl) (by kernel_rfl) (by kernel_rfl) HC.out rfl (fun x => ?_) ?_; rotate_left; (focus (simp [go_sem]; (try go_ints); first | done | (with_reducible rfl))); (simp only [Act.put, List.setIfInBounds_toArray, List.set_cons_succ, List.set_cons_zero]))
        (refine wpAnyC_free 6 (oi := ⟨some 81, _, _, _, _, _⟩) (v := ?_) rfl (by kernel_rfl) (by kernel_rfl) (by kernel_rfl) HC.out rfl (fun x => ?_) ?_; rotate_left; (focus (simp [go_sem, hqq]; (try go_ints); first | done | (with_reducible rfl))); (simp only [Act.put, List.setIfInBounds_toArray, List.set_cons_succ, List.set_cons_zero]))
        (refine wpAnyC_free 7 (oi := ⟨some 82, _, _, _, _, _⟩) (v := ?_) rfl (by kernel_rfl) (by kernel_rfl) (by kernel_rfl) HC.out rfl (fun x => ?_) ?_; rotate_left; (focus (simp [go_sem, hqq]; (try go_ints); first | done | (with_reducible rfl))); (simp only [Act.put, List.setIfInBounds_toArray, List.set_cons_succ, List.set_cons_zero]))
        change wpAnyC _ _ _ _ _ _ _ _ (World.drewN wr 1)
        refine wpAnyC_step 8 (o := ⟨some 83, _, _, _, _, _⟩) rfl (by kernel_rfl) rfl ?_
        refine wpList_callR rfl _ _ (fun v w' => v = .bool true ∧ Grew wr w') (by simp [go_sem]) ((HSm.out _ HC.out).mono fun e w' ⟨h1, h2⟩ => ⟨_, h1, rfl, Grew.trans HC.out h2⟩) ?_
        rintro v w5 ⟨rfl, hG⟩
        have HC := Lib.hid hG
        clear hG
        (simp only [Act.put, List.setIfInBounds_toArray, List.set_cons_succ, List.set_cons_zero])
        refine wpList_nil ⟨rfl, HC.out, ?_⟩
        (refine wpAnyC_free 9 (oi := ⟨some 84, _, _, _, _, _⟩) (v := ?_) rfl (by kernel_rfl) (by kernel_rfl) (by kernel_rfl) HC.out rfl (fun x => ?_) ?_; rotate_left; (focus (simp [go_sem]; (try go_ints); first | done | (with_reducible rfl))); (simp only [Act.put, List.setIfInBounds_toArray, List.set_cons_succ, List.set_cons_zero]))
        refine wpAnyC_done (by kernel_rfl) (fun _ => ?_) _
        clear hqq
        have HS5 := Lib.hid ((HS.out.grew HC.out HBr.out).next)
        have HHc5 := Lib.hid (HHc.out w5 HC.out)
        go_wp2_with fail
        go_loopw [12] (fun m wy => ∃ j : Nat, j ≤ l.length ∧ m = .int .i64 (j : Int) ∧ Spoilt w3 wy B (some ad) n0 c1 rs (k + 1)) (fun m _ => l.length - (intOf m).toNat)
        case atStart => exact ⟨0, Nat.zero_le _, rfl, HS5.out⟩
        case round =>
          obtain ⟨j, hj, rfl, hS⟩ := hrel
          have HSj := Lib.hid hS
          clear hS
          have i20 : (0 : Int) ≤ (j : Int) := by omega
          have hc : wr.cell? (ad.add k) = some (.slice (some ⟨g, o, none⟩) l.length c) := by
            obtain ⟨ad2, e, _, h⟩ := HSj.out.head HRk.out
            cases e
            exact h
          by_cases hlt2 : j < l.length
          · obtain ⟨⟨u, hu⟩, hfz⟩ := HSj.out.place HRk.out hlt2
            have HSn := Lib.hid (HSj.out.set HRk.out hlt2 [115, 112, 111, 105, 108, 116])
            have i25 : (j : Int) < (l.length : Int) := by omega
            go_wp2_with fail
            go_roundw
            case rel => exact ⟨j + 1, hlt2, by go_num, HSn.out⟩
            case measure => simp [intOf]; omega
          · obtain rfl : j = l.length := by omega
            have i25 : ¬ (l.length : Int) < (l.length : Int) := by omega
            go_wp2_with fail
            go_roundw
            case rel => exact ⟨k + 1, hlt, by go_num, HSj.out⟩
            case measure => simp [intOf]; omega
      · obtain rfl : k = n0 := by omega
        have i3 : ¬ (k : Int) < (k : Int) := by omega
        go_wp2_with fail
        go_meet
        case rel => exact HS.out
  case rest =>
  rename World => wD
  have HSp := Lib.hid hcut
  clear hcut
  have HGs := Lib.hid (show Grew w1 wD from Below.trans (show Below w1.heap.size w1 w3 from HG1'.out) (by rw [← HB.out]; exact HSp.out.below))
  have hgC : ∀ r ∈ rs, r.g < wC.heap.size := fun r hr => (Own.lt (HCo.out.each r hr) r.g rfl).2
  have HOm' := Lib.hid (HSp.out.keep hgC HOm.out (Nat.le_refl _))
  have HOw' := Lib.hid (HSp.out.keep hgC HOw.out HG2.out.size)
  have HBs' := Lib.hid (show Boxed wD bs 23 (.slice Aw nw cw) from (HSp.out.kept bs HBs.out.lt (fun r hr e => by have h1 := hgC r hr; have h2 := Hbs.out; have h3 := HG2.out.size; omega)).trans HBs.out)
  have HB3' := Lib.hid (hBx2 HB31.out HGs.out)
  have HB4' := Lib.hid (hBx2 HB41.out HGs.out)
  have HRm := Lib.hid (ref_merge A0 n0 c0 ll wD ((HR1.out.below (Below.mono HGs.out HGw1.out.size)).more (Nat.le_trans HGw1.out.size HGs.out.size)) hl (by omega) (by omega))
  have HNm := Lib.hid (show L.length = nm from HOm.out.len)
  clear hgC HSp HSp0 HCo HOm HOw HBs HG2 HG3 HG1' HBs3 Hbs HRs HGc
  go_upto_region 28 with (go_at_call 17; ((with_reducible refine HRm.out.mono ?_); rintro e w4 ⟨Ar, nr, cr, rfl, hI, hG⟩; have HIr := Lib.hid hI; have HG4 := Lib.hid (show Grew wD w4 from hG); clear hI hG))
  obtain ⟨w5, hw5⟩ : ∃ W, W = w4.alloc (.cells #[.slice Ar nr cr] 23) := ⟨_, rfl⟩
  obtain ⟨bw, hbw⟩ : ∃ b, b = w4.heap.size := ⟨_, rfl⟩
  have hG45 : Grew w4 w5 := by rw [hw5]; exact grew_new w4 _
  have HBw := Lib.hid (show Boxed w5 bw 23 (.slice Ar nr cr) by rw [hw5, hbw]; exact Boxed.new w4 _ _)
  have HI5 := Lib.hid (show Is w5 w5.heap.size Ar nr cr (SymP.foldP ll.flatten) from (HIr.out.below hG45).more hG45.size)
  have HG5 := Lib.hid (HG4.out.trans hG45)
  have Hbw := Lib.hid (show wD.heap.size ≤ bw by rw [hbw]; exact HG4.out.size)
  rw [← hw5, ← hbw]
  clear hw5 hbw hG45 HIr HG4 HRm
  go_upto_if 104 with fail
  go_cut [5, 8, 9] from 103 (fun _ _ _ wy => ∃ (An : Option Addr) (nn cn : Nat), Boxed wy bw 23 (.slice An nn cn) ∧ Is wy wy.heap.size An nn cn L ∧ Grew wD wy)
  case first =>
    have cw := HBw.out.cell
    have fw := HBw.out.frozen
    obtain ⟨s, hs⟩ : ∃ b, b = ll.all ItP.srt := ⟨_, rfl⟩
    rw [← hs] at HSL ⊢
    clear hs
    cases s
    · obtain ⟨hE, hL⟩ := HSL.out.2 rfl
      subst hE hL
      obtain rfl : nm = 0 := HNm.out.symm
      go_wp2_with fail
      go_meet
      case rel => exact ⟨none, 0, 0, HBw.out.set _, Is.nil _ _, Below.setCell (p := ⟨bw, 0, none⟩) (show Below wD.heap.size wD w5 from HG5.out) Hbw.out _⟩
    · obtain ⟨hE, hL⟩ := HSL.out.1 rfl
      subst hE
      rw [← hL] at HI5
      have HSm : Hid (Calls Try.prog 16 #[.slice Am nm cm, .slice Ar nr cr] w5 fun e w' => e = .returned (.bool true) ∧ Grew w5 w') := Lib.hid (by
        have := ref_same Am Ar nm cm nr cr L L w5 (OwnI.is (OwnI.below_all HOm'.out HG5.out) (Nat.le_refl _)) HI5.out
        rw [decide_eq_true rfl] at this
        exact this)
      clear hL
      go_wp2_with (go_at_call 16; ((with_reducible refine HSm.out.mono ?_); rintro e w6 ⟨rfl, hG⟩; have HG6 := Lib.hid hG; clear hG))
      go_meet
      case rel => exact ⟨Ar, nr, cr, hBx2 HBw.out HG6.out, (HI5.out.below HG6.out).more HG6.out.size, HG5.out.trans HG6.out⟩
  case rest =>
  rename World => wE
  obtain ⟨An, nn, cn, hBn, hIn, hG⟩ := hcut
  have HBn := Lib.hid hBn
  have HIn := Lib.hid hIn
  have HGd := Lib.hid hG
  have HB3E := Lib.hid (hBx2 HB3'.out HGd.out)
  have HB4E := Lib.hid (hBx2 HB4'.out HGd.out)
  have HBsE := Lib.hid (hBx2 HBs'.out HGd.out)
  have HOwE := Lib.hid (HOw'.out.below_all HGd.out)
  have HGV : Hid (∀ W, Grew wE W → (∀ g, keepsvalues1 bs Aw L g → g < wE.heap.size) ∧ Gives Try.prog 42 #[.pointer (some ⟨bs, 0, none⟩)] (fun x : It => #[iv x]) (keepsvalues1 bs Aw L) L W) := Lib.hid fun W hW =>
    ⟨(values1_gives bs nw cw Aw L wE HBsE.out.cell (OwnI.is HOwE.out (Nat.le_refl _))).1, (values1_gives bs nw cw Aw L W (hBx2 HBsE.out hW).cell (OwnI.is (OwnI.below_all HOwE.out hW) (Nat.le_refl _))).2⟩
  have hl5 : L.length = nn := hIn.len
  have hn5c : nn ≤ cn ∧ cn ≤ maxLen := ⟨hIn.le, hIn.max⟩
  have HGw := Lib.hid (show Grew w wE from (show Below w.heap.size w w1 from HGw1.out).trans (Below.mono (HGs.out.trans HGd.out) HGw1.out.size))
  clear hBn hIn hG HBw HI5 HG5 HSL HOm' HB3' HB4' HBs' HOw' HB31 HB41 HR HR1 HB HBel HGs HGw1
  go_wp2_with fail
  refine wp_loop_rounds 3 ?_
  rw [rounds_succ]
  obtain ⟨w14, hw14⟩ : ∃ W, W = wE.alloc (.cells #[.int .i64 0] 3) := ⟨_, rfl⟩
  obtain ⟨b28, hb28⟩ : ∃ b, b = wE.heap.size := ⟨_, rfl⟩
  have HB28 := Lib.hid (show Boxed w14 b28 3 (.int .i64 0) by rw [hw14, hb28]; exact Boxed.new wE _ _)
  have HG14 := Lib.hid (show Grew wE w14 by rw [hw14]; exact grew_new wE _)
  rw [← hw14, ← hb28]
  have HE28 := Lib.hid hb28
  clear hw14 hb28
  have c28 := HB28.out.cell
  go_upto_block 8 with fail
  obtain ⟨wA0, hwA0⟩ : ∃ W, W = w14.alloc (.cells #[.int .i64 0] 3) := ⟨_, rfl⟩
  obtain ⟨b290, hb290⟩ : ∃ b, b = w14.heap.size := ⟨_, rfl⟩
  have HB290 := Lib.hid (show Boxed wA0 b290 3 (.int .i64 0) by rw [hwA0, hb290]; exact Boxed.new w14 _ _)
  have HBA0 := Lib.hid (show Boxed wA0 b28 3 (.int .i64 0) by rw [hwA0]; exact HB28.out.alloc _)
  have HGA0 := Lib.hid (show Grew wE wA0 by rw [hwA0]; exact HG14.out.trans (grew_new w14 _))
  have HLT0 := Lib.hid (show wE.heap.size ≤ b28 ∧ b28 < b290 by rw [hb290]; exact ⟨(Nat.le_of_eq HE28.out.symm), HB28.out.lt⟩)
  rw [← hwA0, ← hb290]
  clear hwA0 hb290
  refine wp_rangeIb 8 125 16 (gf := 42) (lb := #[.pointer (some ⟨bs, 0, none⟩)]) (K := keepsvalues1 bs Aw L) (xs := L) rfl (enters_of Try.func42 (by kernel_rfl) rfl)
    (fun g hg => Nat.lt_of_lt_of_le ((HGV.out _ HGA0.out).1 g hg) HGA0.out.size) (HGV.out _ HGA0.out).2
    (fun pre W => Boxed W b28 3 (.int .i64 0) ∧ Boxed W b290 3 (.int .i64 (pre.length : Int)) ∧ Grew wE W) (fun pre W => Boxed W b28 3 (.int .i64 0) ∧ Grew wE W)
    (fun s W W' h _ ha => ⟨ha.boxed h.1, ha.boxed h.2.1, ha.kept h.2.2 HGA0.out.size⟩) (fun s W W' h _ ha => ⟨ha.boxed h.1, ha.kept h.2 HGA0.out.size⟩) ⟨HBA0.out, HB290.out, HGA0.out⟩ ?_ ?_ ?_
  · intro l x W K' hK
    gi_wp2
    exact hK
  · rintro l pre x b W ⟨h28, h29, hG⟩ hsz hIb hb hlen
    have HIB := Lib.hid hIb.range
    have c28 := h28.cell
    have c29 := h29.cell
    have f29 := h29.frozen
    have c26 := (hBx2 HBn.out hG).cell
    have c7 := (hBx2 HB3E.out hG).cell
    have c8 := (hBx2 HB4E.out hG).cell
    have f8 := (hBx2 HB4E.out hG).frozen
    obtain ⟨y, hy⟩ : ∃ y, L[pre.length]? = some y := ⟨_, List.getElem?_eq_getElem hlen⟩
    obtain ⟨g5, o5, e5, _, hr5⟩ := ((HIn.out.below hG).more hG.size).at hy
    subst e5
    have HR5 := Lib.hid hr5
    have i0 : (0 : Int) ≤ (pre.length : Int) := by omega
    have i1 : (pre.length : Int) < (nn : Int) := by omega
    have i2 : ¬ (nn : Int) ≤ (pre.length : Int) := by omega
    have i3 : decide (nn ≤ pre.length) = false := by simp; omega
    have HY := Lib.hid hy
    have H28 := Lib.hid h28
    have H29 := Lib.hid h29
    have HGr := Lib.hid hG
    have hp3 : pre.length + 1 ≤ 800 := by have := HLe.out; omega
    clear hr5 hy h28 h29 hG hIb hlen
    simp only [actI, List.setIfInBounds_toArray, List.set_cons_zero, List.set_cons_succ]
    by_cases hx : x = y
    · have hne := fun W => neq_item x y W
      rw [show (!decide (x = y)) = false by simp [hx]] at hne
      clear hx
      gi_wp2
      refine wpIn_region_quiet_round (by kernel_rfl) rfl (by kernel_rfl) ?_
      repeat (first | gi_big_quiet_step (fail) | (refine wpQuietIn_loadI (o := ⟨some 131, _, _, _, _, _⟩) (.tmp 16) rfl rfl HIB.out rfl ?_; (simp only [Act.put, List.setIfInBounds_toArray, List.set_cons_succ, List.set_cons_zero])) | (refine wpQuietIn_loadI (o := ⟨some 135, _, _, _, _, _⟩) (.tmp 134) rfl rfl HR5.out rfl ?_; (simp only [Act.put, List.setIfInBounds_toArray, List.set_cons_succ, List.set_cons_zero])) | (refine wpQuietIn_neqI (o := ⟨some 136, _, _, _, _, _⟩) (.tmp 131) (.tmp 135) rfl rfl rfl hne rfl ?_; (simp only [Act.put, List.setIfInBounds_toArray, List.set_cons_succ, List.set_cons_zero])))
      refine wpQuietIn_nil ?_
      intro _ hw'
      obtain ⟨nq, hw''⟩ := hw'
      subst hw''
      have HKO := Lib.hid (show KeepsOthers W (W.drewN nq) from KeepsOthers.grew (Grew.drewN _ _))
      have HKS : Hid (∀ v, KeepSet (keepsvalues1 bs Aw L) W ((W.drewN nq).setCell ⟨b290, 0, none⟩ v)) := Lib.hid fun v => KeepSet.trans (KeepSet.below (Grew.drewN _ _) fun g hg => Nat.lt_of_lt_of_le ((HGV.out _ HGr.out).1 g hg) HGr.out.size) (KeepSet.setCell _ _ _ fun hk => by
        have h1 := (HGV.out _ (Grew.refl _)).1 _ hk
        have h2 := HLT0.out
        simp at h1
        omega)
      have HI : Hid (Boxed ((W.drewN nq).setCell ⟨b290, 0, none⟩ (.int .i64 ((pre.length : Int) + 1))) b28 3 (.int .i64 0) ∧ Boxed ((W.drewN nq).setCell ⟨b290, 0, none⟩ (.int .i64 ((pre.length : Int) + 1))) b290 3 (.int .i64 ((pre ++ [x]).length : Int)) ∧ Grew wE ((W.drewN nq).setCell ⟨b290, 0, none⟩ (.int .i64 ((pre.length : Int) + 1)))) := Lib.hid
        ⟨(Below.heap_setCell _ _ _ _ (by have := HLT0.out; simp; omega)).trans H28.out, by have h := Boxed.set (W := W.drewN nq) (.int .i64 ((pre.length : Int) + 1)) H29.out; rw [List.length_append, List.length_singleton, Int.natCast_add]; exact h, (HGr.out.trans (Grew.drewN _ _)).setCell (by have := HLT0.out; simp; omega) _⟩
      have c28' := HI.out.1.cell
      have c29' : ((W.drewN nq).setCell ⟨b290, 0, none⟩ (.int .i64 ((pre.length : Int) + 1))).cell? ⟨b290, 0, none⟩ = some (.int .i64 ((pre.length : Int) + 1)) := by have := HI.out.2.1.cell; simpa using this
      have c7' := (hBx2 HB3E.out HI.out.2.2).cell
      by_cases hlv : a1 = (pre.length : Int) + 1
      · have hlb : ((pre.length : Int) + 1 == a1) = true := by simp [hlv]
        have HLV := Lib.hid hlv
        clear hlv
        gi_wp2
        exact ⟨HKO.out.trans (KeepsOthers.setCell _ _ _), .inl ⟨rfl, HI.out.1, HI.out.2.2⟩⟩
      · have hlb : ((pre.length : Int) + 1 == a1) = false := by simp; omega
        clear hlv
        gi_wp2
        exact ⟨HKO.out.trans (KeepsOthers.setCell _ _ _), HKS.out _, HI.out⟩
    · have hne : (!decide (x = y)) = true := by simp [hx]
      have HX := Lib.hid hx
      clear hx
      gi_wp2
      refine wpIn_region_quiet_round (by kernel_rfl) rfl (by kernel_rfl) ?_
      repeat (first | gi_big_quiet_step (fail) | (refine wpQuietIn_loadI (o := ⟨some 131, _, _, _, _, _⟩) (.tmp 16) rfl rfl HIB.out rfl ?_; (simp only [Act.put, List.setIfInBounds_toArray, List.set_cons_succ, List.set_cons_zero])) | (refine wpQuietIn_loadI (o := ⟨some 135, _, _, _, _, _⟩) (.tmp 134) rfl rfl HR5.out rfl ?_; (simp only [Act.put, List.setIfInBounds_toArray, List.set_cons_succ, List.set_cons_zero])) | (refine wpQuietIn_neqI (o := ⟨some 136, _, _, _, _, _⟩) (.tmp 131) (.tmp 135) rfl rfl rfl hne rfl ?_; (simp only [Act.put, List.setIfInBounds_toArray, List.set_cons_succ, List.set_cons_zero])))
      refine wpQuietIn_nil ?_
      intro _ hw'
      obtain ⟨nq, hw''⟩ := hw'
      subst hw''
      have HKO := Lib.hid (show KeepsOthers W (W.drewN nq) from KeepsOthers.grew (Grew.drewN _ _))
      gi_wp2
      exact ⟨HKO.out.trans (KeepsOthers.setCell _ _ _), .inr fun hp => HX.out (by
        obtain ⟨r, hr⟩ := hp
        have h1 : L[pre.length]? = some x := by rw [← hr]; simp
        exact Option.some.inj (h1.symm.trans HY.out))⟩
  · rintro D0 W0 hD hsz hor hd'
    have HM0 := Lib.hid ((Marks.nil wE.heap.size W0).cons (Nat.le_trans HGA0.out.size hD) hd' (fun m h => by cases h))
    have h28 : Boxed W0 b28 3 (.int .i64 0) := by exact hor.elim (fun h => h.1) (fun ⟨_, _, h⟩ => h.1)
    have hG : Grew wE W0 := by exact hor.elim (fun h => h.2.2) (fun ⟨_, _, h⟩ => h.2)
    have c28 := h28.cell
    have HGW0 := Lib.hid hG
    have HD00 := Lib.hid hd'
    have HDL := Lib.hid (Nat.le_trans HGA0.out.size hD)
    have hD0lt : D0 < W0.heap.size := (Array.getElem?_eq_some_iff.1 hd').1
    clear hor hd'
    go_wp2_with fail
    rw [rounds_succ]
    obtain ⟨w16, hw16⟩ : ∃ W, W = W0.alloc (.cells #[.int .i64 1] 3) := ⟨_, rfl⟩
    obtain ⟨b281, hb281⟩ : ∃ b, b = W0.heap.size := ⟨_, rfl⟩
    have HB281 := Lib.hid (show Boxed w16 b281 3 (.int .i64 1) by rw [hw16, hb281]; exact Boxed.new W0 _ _)
    have HG16 := Lib.hid (show Grew wE w16 by rw [hw16]; exact HGW0.out.trans (grew_new W0 _))
    have HD16 := Lib.hid (show w16.heap[D0]? = some (.deferred (some [])) by rw [hw16]; exact (Below.heap_alloc W0 _ D0 hD0lt).trans HD00.out)
    rw [← hw16, ← hb281]
    have HE281 := Lib.hid hb281
    have HL281 := Lib.hid (show wE.heap.size ≤ b281 by rw [hb281]; exact hG.size)
    have HD0 := Lib.hid (show D0 < w16.heap.size by rw [hw16]; simp; omega)
    clear hw16 hb281 hG hsz hD hD0lt
    have c281 := HB281.out.cell
    go_upto_block 8 with fail
    obtain ⟨wA1, hwA1⟩ : ∃ W, W = w16.alloc (.cells #[.int .i64 0] 3) := ⟨_, rfl⟩
    obtain ⟨b291, hb291⟩ : ∃ b, b = w16.heap.size := ⟨_, rfl⟩
    have HB291 := Lib.hid (show Boxed wA1 b291 3 (.int .i64 0) by rw [hwA1, hb291]; exact Boxed.new w16 _ _)
    have HBA1 := Lib.hid (show Boxed wA1 b281 3 (.int .i64 1) by rw [hwA1]; exact HB281.out.alloc _)
    have HGA1 := Lib.hid (show Grew wE wA1 by rw [hwA1]; exact HG16.out.trans (grew_new w16 _))
    have HLT1 := Lib.hid (show wE.heap.size ≤ b281 ∧ b281 < b291 by rw [hb291]; exact ⟨HL281.out, HB281.out.lt⟩)
    have HDA := Lib.hid (show wA1.heap[D0]? = some (.deferred (some [])) by rw [hwA1]; exact (Below.heap_alloc w16 _ D0 HD0.out).trans HD16.out)
    have HDW := Lib.hid (show D0 < wA1.heap.size by rw [hwA1]; have := HD0.out; simp; omega)
    rw [← hwA1, ← hb291]
    clear hwA1 hb291
    refine wp_rangeIb 8 125 16 (gf := 42) (lb := #[.pointer (some ⟨bs, 0, none⟩)]) (K := keepsvalues1 bs Aw L) (xs := L) rfl (enters_of Try.func42 (by kernel_rfl) rfl)
      (fun g hg => Nat.lt_of_lt_of_le ((HGV.out _ HGA1.out).1 g hg) HGA1.out.size) (HGV.out _ HGA1.out).2
      (fun pre W => Boxed W b281 3 (.int .i64 1) ∧ Boxed W b291 3 (.int .i64 (pre.length : Int)) ∧ Grew wE W ∧ W.heap[D0]? = some (.deferred (some []))) (fun pre W => False)
      (fun s W W' h _ ha => ⟨ha.boxed h.1, ha.boxed h.2.1, ha.kept h.2.2.1 HGA1.out.size, (ha.below.block D0 HDW.out).trans h.2.2.2⟩) (fun s W W' h _ ha => h) ⟨HBA1.out, HB291.out, HGA1.out, HDA.out⟩ ?_ ?_ ?_
    · intro l x W K' hK
      gi_wp2
      exact hK
    · rintro l pre x b W ⟨h28, h29, hG, hDD⟩ hsz hIb hb hlen
      have HIB := Lib.hid hIb.range
      have c28 := h28.cell
      have c29 := h29.cell
      have f29 := h29.frozen
      have c26 := (hBx2 HBn.out hG).cell
      have c7 := (hBx2 HB3E.out hG).cell
      have c8 := (hBx2 HB4E.out hG).cell
      have f8 := (hBx2 HB4E.out hG).frozen
      obtain ⟨y, hy⟩ : ∃ y, L[pre.length]? = some y := ⟨_, List.getElem?_eq_getElem hlen⟩
      obtain ⟨g5, o5, e5, _, hr5⟩ := ((HIn.out.below hG).more hG.size).at hy
      subst e5
      have HR5 := Lib.hid hr5
      have i0 : (0 : Int) ≤ (pre.length : Int) := by omega
      have i1 : (pre.length : Int) < (nn : Int) := by omega
      have i2 : ¬ (nn : Int) ≤ (pre.length : Int) := by omega
      have i3 : decide (nn ≤ pre.length) = false := by simp; omega
      have HY := Lib.hid hy
      have H28 := Lib.hid h28
      have H29 := Lib.hid h29
      have HGr := Lib.hid hG
      have HDD := Lib.hid hDD
      clear hDD
      have hp3 : pre.length + 1 ≤ 800 := by have := HLe.out; omega
      clear hr5 hy h28 h29 hG hIb hlen
      simp only [actI, List.setIfInBounds_toArray, List.set_cons_zero, List.set_cons_succ]
      by_cases hx : x = y
      · have hne := fun W => neq_item x y W
        rw [show (!decide (x = y)) = false by simp [hx]] at hne
        clear hx
        gi_wp2
        refine wpIn_region_quiet_round (by kernel_rfl) rfl (by kernel_rfl) ?_
        repeat (first | gi_big_quiet_step (fail) | (refine wpQuietIn_loadI (o := ⟨some 131, _, _, _, _, _⟩) (.tmp 16) rfl rfl HIB.out rfl ?_; (simp only [Act.put, List.setIfInBounds_toArray, List.set_cons_succ, List.set_cons_zero])) | (refine wpQuietIn_loadI (o := ⟨some 135, _, _, _, _, _⟩) (.tmp 134) rfl rfl HR5.out rfl ?_; (simp only [Act.put, List.setIfInBounds_toArray, List.set_cons_succ, List.set_cons_zero])) | (refine wpQuietIn_neqI (o := ⟨some 136, _, _, _, _, _⟩) (.tmp 131) (.tmp 135) rfl rfl rfl hne rfl ?_; (simp only [Act.put, List.setIfInBounds_toArray, List.set_cons_succ, List.set_cons_zero])))
        refine wpQuietIn_nil ?_
        intro _ hw'
        obtain ⟨nq, hw''⟩ := hw'
        subst hw''
        have HKO := Lib.hid (show KeepsOthers W (W.drewN nq) from KeepsOthers.grew (Grew.drewN _ _))
        have HKS : Hid (∀ v, KeepSet (keepsvalues1 bs Aw L) W ((W.drewN nq).setCell ⟨b291, 0, none⟩ v)) := Lib.hid fun v => KeepSet.trans (KeepSet.below (Grew.drewN _ _) fun g hg => Nat.lt_of_lt_of_le ((HGV.out _ HGr.out).1 g hg) HGr.out.size) (KeepSet.setCell _ _ _ fun hk => by
          have h1 := (HGV.out _ (Grew.refl _)).1 _ hk
          have h2 := HLT1.out
          simp at h1
          omega)
        have HI : Hid (Boxed ((W.drewN nq).setCell ⟨b291, 0, none⟩ (.int .i64 ((pre.length : Int) + 1))) b281 3 (.int .i64 1) ∧ Boxed ((W.drewN nq).setCell ⟨b291, 0, none⟩ (.int .i64 ((pre.length : Int) + 1))) b291 3 (.int .i64 ((pre ++ [x]).length : Int)) ∧ Grew wE ((W.drewN nq).setCell ⟨b291, 0, none⟩ (.int .i64 ((pre.length : Int) + 1)))) := Lib.hid
          ⟨(Below.heap_setCell _ _ _ _ (by have := HLT1.out; simp; omega)).trans H28.out, by have h := Boxed.set (W := W.drewN nq) (.int .i64 ((pre.length : Int) + 1)) H29.out; rw [List.length_append, List.length_singleton, Int.natCast_add]; exact h, (HGr.out.trans (Grew.drewN _ _)).setCell (by have := HLT1.out; simp; omega) _⟩
        have c28' := HI.out.1.cell
        have c29' : ((W.drewN nq).setCell ⟨b291, 0, none⟩ (.int .i64 ((pre.length : Int) + 1))).cell? ⟨b291, 0, none⟩ = some (.int .i64 ((pre.length : Int) + 1)) := by have := HI.out.2.1.cell; simpa using this
        have c7' := (hBx2 HB3E.out HI.out.2.2).cell
        gi_wp2
        exact ⟨HKO.out.trans (KeepsOthers.setCell _ _ _), HKS.out _, HI.out.1, HI.out.2.1, HI.out.2.2, (KeepsOthers.setCell _ _ _).same _ _ (HKO.out.same _ _ HDD.out rfl) rfl⟩
      · have hne : (!decide (x = y)) = true := by simp [hx]
        have HX := Lib.hid hx
        clear hx
        gi_wp2
        refine wpIn_region_quiet_round (by kernel_rfl) rfl (by kernel_rfl) ?_
        repeat (first | gi_big_quiet_step (fail) | (refine wpQuietIn_loadI (o := ⟨some 131, _, _, _, _, _⟩) (.tmp 16) rfl rfl HIB.out rfl ?_; (simp only [Act.put, List.setIfInBounds_toArray, List.set_cons_succ, List.set_cons_zero])) | (refine wpQuietIn_loadI (o := ⟨some 135, _, _, _, _, _⟩) (.tmp 134) rfl rfl HR5.out rfl ?_; (simp only [Act.put, List.setIfInBounds_toArray, List.set_cons_succ, List.set_cons_zero])) | (refine wpQuietIn_neqI (o := ⟨some 136, _, _, _, _, _⟩) (.tmp 131) (.tmp 135) rfl rfl rfl hne rfl ?_; (simp only [Act.put, List.setIfInBounds_toArray, List.set_cons_succ, List.set_cons_zero])))
        refine wpQuietIn_nil ?_
        intro _ hw'
        obtain ⟨nq, hw''⟩ := hw'
        subst hw''
        have HKO := Lib.hid (show KeepsOthers W (W.drewN nq) from KeepsOthers.grew (Grew.drewN _ _))
        gi_wp2
        exact ⟨HKO.out.trans (KeepsOthers.setCell _ _ _), .inr fun hp => HX.out (by
          obtain ⟨r, hr⟩ := hp
          have h1 : L[pre.length]? = some x := by rw [← hr]; simp
          exact Option.some.inj (h1.symm.trans HY.out))⟩
    · rintro D1 W1 hD hsz hor hd'
      have hor : Boxed W1 b281 3 (.int .i64 1) ∧ Boxed W1 b291 3 (.int .i64 (L.length : Int)) ∧ Grew wE W1 ∧ W1.heap[D0]? = some (.deferred (some [])) := hor.elim (fun h => h) (fun ⟨_, _, h⟩ => h.elim)
      obtain ⟨h28, h29, hG, hDD⟩ := hor
      have HM1 := Lib.hid (((Marks.nil wE.heap.size W1).cons HDL.out hDD (fun m h => by cases h)).cons (Nat.le_trans HGA1.out.size hD) hd' (fun m h => by
        have e : m = D0 := by simpa using h
        have := HDW.out
        omega))
      have c28 := h28.cell
      have c29 : W1.cell? ⟨b291, 0, none⟩ = some (.int .i64 (nn : Int)) := by rw [← hl5]; exact h29.cell
      have c26 := (hBx2 HBn.out hG).cell
      have HGW1 := Lib.hid hG
      have HB8W := Lib.hid (hBx2 HB4E.out hG)
      clear hD hd' h28 h29 hG hDD
      go_wp2_with fail
      rw [rounds_succ]
      obtain ⟨w17, hw17⟩ : ∃ W, W = W1.alloc (.cells #[.int .i64 2] 3) := ⟨_, rfl⟩
      obtain ⟨b282, hb282⟩ : ∃ b, b = W1.heap.size := ⟨_, rfl⟩
      have HB282 := Lib.hid (show Boxed w17 b282 3 (.int .i64 2) by rw [hw17, hb282]; exact Boxed.new W1 _ _)
      have HG17 := Lib.hid (show Grew W1 w17 by rw [hw17]; exact grew_new W1 _)
      have HB817 := Lib.hid (hBx2 HB8W.out HG17.out)
      rw [← hw17, ← hb282]
      have HM17 := Lib.hid (Marks.apart (E := 0) HM1.out (KeepsOthers.grew HG17.out))
      have HGL17 := Lib.hid (HGW1.out.trans HG17.out)
      clear hw17 hb282 c28 c29 c26
      have c282 := HB282.out.cell
      have c817 := HB817.out.cell
      have f817 := HB817.out.frozen
      go_wp2_with fail
      have HBt := Lib.hid (HB817.out.set (.bool true))
      have HGt := Lib.hid (Below.setCell (p := ⟨b4, 0, none⟩) (show Below w.heap.size w w17 from HGw.out.trans HGL17.out) (by have := HBB.out.2; show w.heap.size ≤ b4; omega) (.bool true))
      refine postM_retC (v := .bool true) (D := wE.heap.size) (W := w17.setCell ⟨b4, 0, none⟩ (.bool true)) (Marks.apart (E := 0) HM17.out (KeepsOthers.setCell _ _ _)) (by have := HGL17.out.size; simpa using this) fun W' ha => ?_
      have hc := load_boxM (ha.boxed HBt.out).cell
      exact ⟨by simp [results, Try.results4, asAddr, hc], rfl, ha.kept HGt.out HGw.out.size⟩
end Go.Proofs.Ytemckkcbakccnaa
namespace Go.Proofs.Ytemckkcbakccnaa.lawMergeMerges
open Go.ChangeShapes Go.WideShapes Go.ChangeAt Go.RowKit
open Go.ChangeMaps (open_string shut_string)
set_option linter.unusedVariables false
set_option maxRecDepth 100000 in
theorem contract (H : Type) (enc : TypeId × Value → H) (W : World) (base : Nat) (args : Array Value) (ds gs : List (DataW H)) (before : List MemPlace)
    (hval : ∀ (j : Nat) t v, Try.f4.params[j]? = some t → args[j]? = some v → Value.okWide Try.prog W .any base t v)
    (hW : DataW.Whole enc Try.prog Try.f4.params.toList Rows.mergeMergesSpec.vars false W args.toList ds gs before)
    (hsz : (DataW.weightsEach Try.prog (Try.f4.params.toList ++ Rows.mergeMergesSpec.plain.varTypes Try.prog) (ds ++ gs)).all (· ≤ reachBytes) = true) (hk : Rows.uptoSmall H (ds ++ gs) = true) :
    Calls Try.prog 4 args W fun e W' => ∃ v, e = .returned v ∧ Rows.mergeMergesSpec.post enc Try.prog Try.f4 false true false false W args v W' := by
  have hW' := hW
  obtain ⟨p, q, hA0, hV, rfl, hfz, hnd⟩ := hW
  have hA : DataW.TrodAll enc Try.prog W 0 (fun _ => true) true Try.f4.params.toList args.toList ds p := hA0
  rw [Try.params4] at hA hval hsz
  obtain ⟨v0, vs0, d0, ds0, p0, q0, hargs, rfl, rfl, h0, r0⟩ := trodAll_cons hA
  obtain ⟨v1, vs1, d1, ds1, p1, q1, rfl, rfl, rfl, h1, r1⟩ := trodAll_cons r0
  obtain ⟨rfl, rfl, rfl⟩ := trodAll_nil r1
  obtain rfl : args = #[v0, v1] := by cases args; simp_all
  obtain ⟨rfl, rfl⟩ := trodVars_none hV
  have hkb : Rows.uptoBulkAll [d0, d1] ≤ 1048576 := of_decide_eq_true hk
  simp only [Rows.uptoBulkAll] at hkb
  obtain ⟨A0, n0, c0, rfl⟩ := okWide_slice Try.underlying30 (hval 0 30 v0 rfl rfl)
  have k0 := h0
  have lt0 : ∀ x ∈ p0, x.block < W.heap.size := by obtain ⟨m, hm⟩ := k0; exact DataW.trod_lt m _ _ _ hm
  obtain ⟨fuel0, hf0⟩ := h0
  obtain ⟨l0, b0, u0, hd0⟩ := open_litems   hf0
  have v0 : bulk_litems l0 ≤ Rows.uptoBulk d0 := Nat.le_of_succ_le u0
  have z0 : n0 * 24 ≤ 140737488351232 := by
    rcases hd0 with ⟨_, h⟩ | ⟨es, sp, h, hl⟩
    · omega
    · have hb : Try.prog.bytesOf 23 = 24 := by kernel_rfl
      have := sized_slice hsz (j := 0) (t := 30) (e := 23) (elems := es) (spare := sp) rfl (by simpa using h) Try.underlying30
      rw [hb] at this
      unfold reachBytes at this
      omega
  obtain ⟨a1, rfl, rfl, rfl, w1⟩ := open_int Try.underlying3 (hval 1 3 v1 rfl rfl) h1
  have hup : bulk_litems l0 ≤ 1048576 := by omega
  clear hA0
  refine (mergeMerges_walk A0 n0 c0 l0 a1 W b0 z0 w1 hup).mono fun e W' ⟨he, bel⟩ => ?_
  subst he
  exact ⟨_, rfl, _, _, _, [], _, [], hW', trodAll_mk1 (shut_bool Try.underlying4 _), (trodAll_cons_mk (Below.trod laidOut (by kernel_rfl) (of_decide_eq_true (by kernel_rfl)) k0 bel lt0) (trodAll_cons_mk (shut_int Try.underlying3 w1) trodAll_mk0)), rfl, bel.frame _, fun h => by cases h⟩
set_option maxRecDepth 100000 in
theorem lifted (os : Os) (started : os.Started) (H : Type) (enc : TypeId × Value → H) (F : Stop.Interp) :
    ReturnsInHanded {} Try.checked os 4 .any ((Rows.OpenSpec.upto Rows.mergeMergesSpec).pre6 enc Try.prog Try.f4 Rows.mergeMergesUptoRow.domain false) (((Rows.OpenSpec.upto Rows.mergeMergesSpec).at F).post enc Try.prog Try.f4 false true false false) := by
  refine returnsInHanded_of_cond_sized (C := Try.checked) (s := Rows.OpenSpec.upto Rows.mergeMergesSpec) (k := Rows.uptoSmall) rfl ownKnob_none started (by kernel_rfl) Try.func4
    (OpenSpec.witness (enc := enc) (C := Try.checked) (s := Rows.OpenSpec.upto Rows.mergeMergesSpec) (k := Rows.uptoSmall) rfl false ⟨#[], #[.slice none 0 0, .int .i64 0], []⟩ 8 (by kernel_rfl) (by kernel_rfl) (by kernel_rfl)
      (x := ([.nil, .lit (.int .i64 0)], [], [])) (by kernel_rfl) rfl (by kernel_rfl)) ?_
  intro W base args ds gs before hval hW _ hk hsz _
  exact contract H enc W base args ds gs before hval hW hsz hk
theorem over : Rows.mergeMergesUptoRow.holds Try.pinned (Rows.OpenSpec.upto Rows.mergeMergesSpec) :=
  OpenClaim.holds_of_cond 4 Try.f4 rfl rfl rfl rfl rfl rfl rfl ⟨rfl, rfl, rfl, rfl, rfl⟩ rfl rfl rfl rfl rfl (by kernel_rfl) Try.func4 (by kernel_rfl)
    (of_decide_eq_true (by kernel_rfl)) (by unfold Func.isWrapper; first | (rw [if_pos (by decide +kernel)]; kernel_rfl) | (rw [if_neg (by decide +kernel)]; exact ⟨rfl, rfl⟩))
    (fun os started H enc _ F => lifted os started H enc F)
theorem proved : Rows.MergeMergesUptoSaid := over
#print axioms proved
end Go.Proofs.Ytemckkcbakccnaa.lawMergeMerges
