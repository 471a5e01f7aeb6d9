/- The walk of rolodexlaw2.ShaRows. -/
import Derived.Test.YtohgkadbajmphaaShaKeysWalk
namespace Go.Proofs.Ytohgkadbajmphaa
open Go.RowKit
set_option linter.unusedVariables false
theorem Wrote.other {w w' : World} {base g g2 : Nat} {A A2 : Option Addr} {n n2 c2 k : Nat} {l l2 b : List UInt8} {S S2 : List UInt8} {e : Ending} {d2 : Bool} (hk : keptBut w w' (fun k => k = g ∨ blk A = some k)) (h2 : HashV w base g2 A2 n2 c2 l2 d2 S2) (hne : g2 ≠ g) (h3 : blk A ≠ some g2) (h4 : ∀ k, blk A2 = some k → k ≠ g ∧ blk A ≠ some k) : HashV w' base g2 A2 n2 c2 l2 d2 S2 := by
  have e1 : w'.heap[g2]? = w.heap[g2]? := hk.block g2 h2.arr.lt (fun h => h.elim hne h3)
  refine ⟨h2.arr.keep e1, Own.keep h2.own (fun k hk2 => hk.block k (Own.lt h2.own k hk2).2 ?_), h2.ne, h2.len, h2.sum⟩
  rintro (h | h)
  · exact (h4 k hk2).1 h
  · exact (h4 k hk2).2 h
theorem take_take_drop (l : List UInt8) (j t : Nat) (h : j ≤ t) : l.take j ++ (l.drop j).take (t - j) = l.take t := by
  have := List.take_add (l := l) (i := j) (j := t - j)
  rw [show j + (t - j) = t by omega] at this
  exact this.symm
set_option maxRecDepth 100000 in
set_option maxHeartbeats 2000000 in
theorem shaRows_walk (A0 : Option Addr) (n0 c0 : Nat) (l0 : List UInt8) (a1 : Int) (w : World) (b0 : BytesIn w A0 n0 c0 l0) (z0 : n0 * 1 ≤ 140737488351232) (w1 : (Lit.int .i64 a1).wf = true) :
    Calls Try.prog 9 #[.slice A0 n0 c0, .int .i64 a1] w fun e w' => e = .returned (.bool true) ∧ Below w.heap.size w w' := by
  have S0 := Lib.hid b0.sl
  have hr0 := Lib.hid b0.row
  have hl0 := b0.len
  subst hl0
  have hc0 := b0.le
  have hc1 := b0.max
  unfold maxLen at hc1
  clear b0
  by_cases hbig : 600 < l0.length ∨ a1 < 1 ∨ 600 < a1
  · by_cases h1 : 600 < l0.length
    · have i1 : (600 : Int) < (l0.length : Int) := by omega
      go_enter Try.func9, Try.ntmps9
      go_wp2_with fail
      refine (awake2 w).mono ?_
      rintro e wa ⟨rfl, hB1⟩
      go_wp2_with fail
      go_ret
      exact ⟨rfl, hB1⟩
    · have i1 : ¬ (600 : Int) < (l0.length : Int) := by omega
      by_cases h3 : a1 < 1
      · go_enter Try.func9, Try.ntmps9
        go_wp2_with fail
        refine (awake2 w).mono ?_
        rintro e wa ⟨rfl, hB1⟩
        go_wp2_with fail
        go_ret
        exact ⟨rfl, hB1⟩
      · have h4 : 600 < a1 := by omega
        go_enter Try.func9, Try.ntmps9
        go_wp2_with fail
        refine (awake2 w).mono ?_
        rintro e wa ⟨rfl, hB1⟩
        go_wp2_with fail
        go_ret
        exact ⟨rfl, hB1⟩
  · have i1 : ¬ (600 : Int) < (l0.length : Int) := by omega
    have i3 : ¬ a1 < 1 := by omega
    have i4 : ¬ 600 < a1 := by omega
    have k1 : l0.length ≤ 600 := by omega
    clear hbig
    go_enter Try.func9, Try.ntmps9
    go_wp2_with fail
    refine (awake2 w).mono ?_
    rintro e wa ⟨rfl, hBa⟩
    go_wp2_with fail
    refine (hash_new wa).mono ?_
    rintro e wb ⟨rfl, hHx, hBb⟩
    obtain ⟨gx, hgx⟩ : ∃ g, g = wa.heap.size := ⟨_, rfl⟩
    rw [← hgx] at hHx ⊢
    have hxb : gx < wb.heap.size := hHx.arr.lt
    have hwx : w.heap.size ≤ gx := by have := hBa.size; omega
    have HHx := Lib.hid hHx
    have hBb' : Below w.heap.size w wb := hBa.trans (hBb.mono (by omega))
    clear hHx hBb hgx
    go_wp2_with fail
    refine (hash_new wb).mono ?_
    rintro e wc ⟨rfl, hHy, hBc⟩
    obtain ⟨gy, hgy⟩ : ∃ g, g = wb.heap.size := ⟨_, rfl⟩
    rw [← hgy] at hHy ⊢
    have hyb : gy < wc.heap.size := hHy.arr.lt
    have HHy := Lib.hid (show HashV wc gx gy none 0 0 [] false (List.replicate 32 0) from ⟨hHy.arr, Own.nil _ _ _ _, by simp, hHy.len, hHy.sum⟩)
    have HHx2 := Lib.hid (show HashV wc gx gx none 0 0 [] false (List.replicate 32 0) from HHx.out.grew (hBc.mono (by omega)))
    have hBc' : Below w.heap.size w wc := hBb'.trans (hBc.mono (by have := hBb'.size; omega))
    have hxy : gx < gy := by omega
    clear hHy hBc HHx hBa hgy
    go_wp2_with fail
    go_loopw [7] (fun i wr => ∃ (j : Nat) (A : Option Addr) (n c : Nat), j ≤ l0.length ∧ i = .int .i64 (j : Int) ∧ n = j ∧ HashV wr gx gx A n c (l0.take j) false (List.replicate 32 0) ∧ HashV wr gx gy none 0 0 [] false (List.replicate 32 0) ∧ (∀ k, blk A = some k → gy < k) ∧ gy < wr.heap.size ∧ Below w.heap.size w wr) (fun i _ => l0.length - (intOf i).toNat)
    case atStart => exact ⟨0, none, 0, 0, Nat.zero_le _, rfl, rfl, HHx2.out, HHy.out, by simp [blk], hyb, hBc'⟩
    case round =>
      obtain ⟨j, A, n, c, hj, rfl, rfl, hX, hY, hbl, hgyr, hBr⟩ := hrel
      by_cases hlt : n < l0.length
      · obtain ⟨ad, hA, _, _⟩ := hr0.out.at_ n (by simpa using hlt)
        subst hA
        have hsl := (S0.out.below hBr).mid n (n + 1) (by omega) (by omega)
        rw [show n + 1 - n = 1 by omega] at hsl
        have hT := Lib.hid (hash_write gx gx A n c (l0.take n) (List.replicate 32 0) (some (ad.add n)) 1 (c0 - n) w.heap.size ((l0.drop n).take 1) wr hX hsl hBr.size (by have := hX.arr.lt; omega) (by omega))
        have HX := Lib.hid hX
        have HY := Lib.hid hY
        have HBL := Lib.hid hbl
        have i5 : (n : Int) < (l0.length : Int) := by omega
        have i6 : (n : Int) + 1 ≤ (l0.length : Int) := by omega
        have i7 : ¬ c0 = n := by omega
        clear hX hY hsl hbl
        go_wp2_with fail
        refine hT.out.mono ?_
        rintro e ws ⟨A', c', rfl, hX', hk', hor⟩
        have HX' := Lib.hid hX'
        have HY' := Lib.hid (Wrote.other (e := .outgrown) (n := n) (k := 0) (S := []) (l := []) (b := []) hk' HY.out (by omega) (fun e => by have := HBL.out _ e; omega) (by simp [blk]))
        have hBs := hBr.trans (hk'.below hBr.size (fun k hk => Nat.le_trans hwx (HX.out.base_le (Nat.le_refl _) k hk)))
        have HBS := Lib.hid hBs
        have HOR := Lib.hid hor
        have hszs := hk'.size
        clear hX' hk' hor hT hBs
        go_wp2_with fail
        go_roundw
        case rel =>
          refine ⟨n + 1, A', _, c', by omega, by go_num, rfl, ?_, HY'.out, fun k hk => ?_, by omega, HBS.out⟩
          · have := HX'.out
            rw [show (l0.drop n).take 1 = [l0[n]] by rw [List.drop_eq_getElem_cons hlt]; rfl, ← List.take_succ_eq_append_getElem hlt] at this
            exact this
          · rcases HOR.out with h | ⟨k', h, hge⟩
            · exact HBL.out k (by rw [← h]; exact hk)
            · rw [h] at hk; injection hk with hk; omega
        case measure => simp [intOf]; omega
      · obtain rfl : n = l0.length := by omega
        rw [List.take_of_length_le (Nat.le_refl _)] at hX
        obtain ⟨wo, rfl⟩ : ∃ wo : World, wo = wr := ⟨_, rfl⟩
        have HX := Lib.hid hX
        have HY := Lib.hid hY
        have HBL := Lib.hid hbl
        clear hX hY hbl
        obtain ⟨s, rfl⟩ : ∃ s : Nat, a1 = (s : Int) := ⟨a1.toNat, by omega⟩
        have i8 : 1 ≤ s := by omega
        have i9 : s ≤ 600 := by omega
        have hwo := hBr.size
        have hxo : gx < wo.heap.size := HX.out.arr.lt
        clear i3 i4 i1
        go_wp2_with fail
        go_loopw [8] (fun i wr => ∃ (j : Nat) (B : Option Addr) (n2 c2 : Nat), j ≤ 1200 ∧ i = .int .i64 (j : Int) ∧ n2 = (l0.take j).length ∧ HashV wr gx gx A l0.length c l0 false (List.replicate 32 0) ∧ HashV wr gx gy B n2 c2 (l0.take j) false (List.replicate 32 0) ∧ (∀ k, blk B = some k → wo.heap.size ≤ k) ∧ Below w.heap.size w wr ∧ wo.heap.size ≤ wr.heap.size) (fun i _ => 1200 - (intOf i).toNat)
        case atStart => exact ⟨0, none, 0, 0, Nat.zero_le _, rfl, rfl, HX.out, HY.out, by simp [blk], hBr, Nat.le_refl _⟩
        case round =>
          obtain ⟨j, B, n2, c2, hj, rfl, hn2, hX, hY, hbl, hBr2, hwr⟩ := hrel
          have HX2 := Lib.hid hX
          have HY2 := Lib.hid hY
          have HBL2 := Lib.hid hbl
          have HN2 := Lib.hid hn2
          have hn600 : n2 ≤ 600 := by rw [hn2, List.length_take]; omega
          clear hX hY hbl hn2
          by_cases hlt : j < l0.length
          · obtain ⟨t, ht⟩ : ∃ t : Nat, t = if j + s ≤ l0.length then j + s else l0.length := ⟨_, rfl⟩
            have ht1 : j ≤ t ∧ t ≤ l0.length ∧ t ≤ 600 := by rw [ht]; split <;> omega
            obtain ⟨ad, hA, _, _⟩ := hr0.out.at_ j (by simpa using hlt)
            subst hA
            have hsl := (S0.out.below hBr2).mid j t ht1.1 ht1.2.1
            have hT := Lib.hid (hash_write gx gy B n2 c2 (l0.take j) (List.replicate 32 0) (some (ad.add j)) (t - j) (c0 - j) w.heap.size ((l0.drop j).take (t - j)) wr HY2.out hsl hBr2.size (by have := HX2.out.arr.lt; omega) (by omega))
            have hpost : ∀ e ws, Wrote wr gx gy B n2 (l0.take j) (List.replicate 32 0) (t - j) ((l0.drop j).take (t - j)) e ws → e = .returned (.int .i64 ((t - j : Nat) : Int)) ∧ ∃ (B' : Option Addr) (c' : Nat), HashV ws gx gx A l0.length c l0 false (List.replicate 32 0) ∧ HashV ws gx gy B' (l0.take t).length c' (l0.take t) false (List.replicate 32 0) ∧ (∀ k, blk B' = some k → wo.heap.size ≤ k) ∧ Below w.heap.size w ws ∧ wo.heap.size ≤ ws.heap.size := by
              rintro e ws ⟨B', c', he, hY', hk', hor⟩
              refine ⟨he, B', c', ?_, ?_, fun k hk => ?_, ?_, Nat.le_trans hwr hk'.size⟩
              · exact Wrote.other (e := .outgrown) (n := n2) (k := 0) (S := []) (l := []) (b := []) hk' HX2.out (by omega) (fun e => by have := HBL2.out _ e; omega) (fun k hk => ⟨fun e => by have := HBL.out k hk; omega, fun e => by have h1 := HBL2.out k e; have h2 := (Own.lt HX.out.own k hk).2; omega⟩)
              · rw [take_take_drop l0 j t ht1.1] at hY'
                have hl : n2 + (t - j) = (l0.take t).length := by rw [HN2.out, List.length_take, List.length_take]; omega
                rw [hl] at hY'
                exact hY'
              · rcases hor with h | ⟨k', h, hge⟩
                · exact HBL2.out k (by rw [← h]; exact hk)
                · rw [h] at hk; injection hk with hk; omega
              · exact hBr2.trans (hk'.below hBr2.size (fun k hk => by
                  rcases hk with rfl | hk
                  · omega
                  · have := HBL2.out k hk; omega))
            have HP := Lib.hid hpost
            have HTT := Lib.hid ht
            have ht1a := ht1.1
            have ht1b := ht1.2.1
            have i5 : (j : Int) < (l0.length : Int) := by omega
            have i7 : ¬ c0 = j := by omega
            clear hsl hpost ht1
            by_cases hle : j + s ≤ l0.length
            · obtain rfl : t = j + s := by rw [ht, if_pos hle]
              have i6 : ¬ (l0.length : Int) < (j : Int) + (s : Int) := by omega
              clear ht
              rw [show j + s - j = s by omega] at hT HP
              go_wp2_with fail
              refine (hT.out.mono HP.out).mono ?_
              rintro e ws ⟨rfl, B', c', q1, q2, q3, q4, q5⟩
              have Q := Lib.hid (And.intro q1 (And.intro q2 (And.intro q3 (And.intro q4 q5))))
              clear q1 q2 q3 q4 q5 hT HP
              go_wp2_with fail
              go_roundw
              case rel => exact ⟨j + s, B', _, c', by omega, by go_num, rfl, Q.out⟩
              case measure => simp [intOf]; omega
            · obtain rfl : t = l0.length := by rw [ht, if_neg hle]
              have i6 : (l0.length : Int) < (j : Int) + (s : Int) := by omega
              clear ht
              go_wp2_with fail
              refine (hT.out.mono HP.out).mono ?_
              rintro e ws ⟨rfl, B', c', q1, q2, q3, q4, q5⟩
              have Q := Lib.hid (And.intro q1 (And.intro q2 (And.intro q3 (And.intro q4 q5))))
              clear q1 q2 q3 q4 q5 hT HP
              go_wp2_with fail
              go_roundw
              case rel =>
                refine ⟨j + s, B', _, c', by omega, by go_num, rfl, ?_⟩
                rw [show l0.take (j + s) = l0.take l0.length by rw [List.take_of_length_le (by omega), List.take_of_length_le (Nat.le_refl _)]]
                exact Q.out
              case measure => simp [intOf]; omega
          · have i5 : ¬ (j : Int) < (l0.length : Int) := by omega
            have hX3 := HX2.out
            have hY3 := HY2.out
            rw [HN2.out, List.take_of_length_le (by omega)] at hY3
            obtain ⟨D, hD⟩ : ∃ D : List UInt8, D = ShaP.digest l0 := ⟨_, rfl⟩
            have hDl : D.length = 32 := by rw [hD]; exact ShaP.digest_len _
            obtain ⟨C, hC⟩ : ∃ C, C = D.map b8 := ⟨_, rfl⟩
            have HEQ := Lib.hid (eql_same C D hDl hC)
            obtain ⟨X, hX⟩ : ∃ X : List UInt8, X = ShaP.hex D := ⟨_, rfl⟩
            have hHex := Lib.hid (show ∀ W : World, Calls Try.prog 25 #[.agg C.toArray] W fun e w' => e = .returned (.string ⟨X.toArray⟩) ∧ Below W.heap.size W w' from fun W => by have := sha_hex D hDl W; rw [← hC, ← hX] at this; exact this)
            have hLen := Lib.hid (hash_len _ _ _ _ _ _ _ _ wr hX3)
            have hS1 := Lib.hid (show Calls Try.prog 17 #[.pointer (some ⟨gx, 0, none⟩)] wr fun e w' => e = .returned (.agg C.toArray) ∧ HashV w' gx gx A l0.length c l0 true D ∧ wr.grownBy w' (some gx) from by have := hash_sum _ _ _ _ _ _ _ _ wr hX3 (by omega); rw [← hD, ← hC] at this; exact this)
            have hS2 := Lib.hid (show ∀ W : World, HashV W gx gy B l0.length c2 l0 false (List.replicate 32 0) → Calls Try.prog 17 #[.pointer (some ⟨gy, 0, none⟩)] W fun e w' => e = .returned (.agg C.toArray) ∧ HashV w' gx gy B l0.length c2 l0 true D ∧ W.grownBy w' (some gy) from fun W h => by have := hash_sum _ _ _ _ _ _ _ _ W h (by omega); rw [← hD, ← hC] at this; exact this)
            have hAg := Lib.hid (show ∀ (g : Nat) (A' : Option Addr) (c' : Nat) (W : World), HashV W gx g A' l0.length c' l0 true D → Calls Try.prog 17 #[.pointer (some ⟨g, 0, none⟩)] W fun e w' => e = .returned (.agg C.toArray) ∧ Grew W w' from fun g A' c' W h => by have := hash_again _ _ _ _ _ _ _ W h; rw [← hD, ← hC] at this; exact this)
            have hSb := Lib.hid (show ∀ W : World, Below w.heap.size w W → Calls Try.prog 19 #[.slice A0 l0.length c0] W fun e w' => e = .returned (.agg C.toArray) ∧ Grew W w' from fun W hW => by have := sha_sum A0 l0.length c0 w.heap.size l0 W (S0.out.below hW) hW.size (by omega); rw [← hD, ← hC] at this; exact this)
            have HY3 := Lib.hid hY3
            clear hX3 hY3 hD hDl hC hX HX2 HY2
            go_wp2_with fail
            refine hLen.out.mono ?_
            rintro e w5 ⟨rfl, rfl⟩
            go_wp2_with fail
            refine hS1.out.mono ?_
            rintro e w6 ⟨rfl, hX6, hg6⟩
            have hY6 := HY3.out.other hg6 (by intro e; injection e; omega) (fun k hk e => by injection e with e; have := HBL2.out k hk; omega)
            have hB6 : Below w.heap.size w w6 := hBr2.trans (below_grown hg6 hBr2.size (fun k e => by injection e with e; omega))
            have HX6 := Lib.hid hX6
            have HY6 := Lib.hid hY6
            clear hX6 hY6 hg6 hS1
            go_wp2_with fail
            refine (hS2.out w6 HY6.out).mono ?_
            rintro e w7 ⟨rfl, hY7, hg7⟩
            have hX7 := HX6.out.other hg7 (by intro e; injection e; omega) (fun k hk e => by injection e with e; have := HBL.out k hk; omega)
            have hB7 : Below w.heap.size w w7 := hB6.trans (below_grown hg7 hB6.size (fun k e => by injection e with e; omega))
            have HX7 := Lib.hid hX7
            have HY7 := Lib.hid hY7
            clear hX7 hY7 hg7 hS2 HX6 HY6
            have heq := HEQ.out
            go_wp2_with fail
            refine (hAg.out gx A c w7 HX7.out).mono ?_
            rintro e w8 ⟨rfl, hg8⟩
            have hB8 : Below w.heap.size w w8 := hB7.trans (hg8.mono hB7.size)
            have HX8 := Lib.hid (HX7.out.grew hg8)
            have HY8 := Lib.hid (HY7.out.grew hg8)
            clear hg8 HX7 HY7
            go_wp2_with fail
            refine (hSb.out w8 hB8).mono ?_
            rintro e w9 ⟨rfl, hg9⟩
            have hB9 : Below w.heap.size w w9 := hB8.trans (hg9.mono hB8.size)
            have HX9 := Lib.hid (HX8.out.grew hg9)
            have HY9 := Lib.hid (HY8.out.grew hg9)
            clear hg9 HX8 HY8
            go_wp2_with fail
            refine (hAg.out gx A c w9 HX9.out).mono ?_
            rintro e w10 ⟨rfl, hg10⟩
            have hB10 : Below w.heap.size w w10 := hB9.trans (hg10.mono hB9.size)
            have HY10 := Lib.hid (HY9.out.grew hg10)
            clear hg10 HX9 HY9
            go_wp2_with fail
            refine (hHex.out w10).mono ?_
            rintro e w11 ⟨rfl, hg11⟩
            have hB11 : Below w.heap.size w w11 := hB10.trans (Below.mono hg11 hB10.size)
            have HY11 := Lib.hid (HY10.out.grew hg11)
            clear hg11 HY10
            go_wp2_with fail
            refine (hAg.out gy B c2 w11 HY11.out).mono ?_
            rintro e w12 ⟨rfl, hg12⟩
            have hB12 : Below w.heap.size w w12 := hB11.trans (hg12.mono hB11.size)
            clear hg12 HY11
            go_wp2_with fail
            refine (hHex.out w12).mono ?_
            rintro e w13 ⟨rfl, hg13⟩
            have hB13 : Below w.heap.size w w13 := hB12.trans (Below.mono hg13 hB12.size)
            go_wp2_with fail
            go_ret
            exact ⟨rfl, hB13⟩
end Go.Proofs.Ytohgkadbajmphaa
