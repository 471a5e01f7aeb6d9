/- Lists of one cell's elements that the call owns (ints, words of 32 bits); the walk of the reference's primes. -/
import Derived.Test.YtohgkadbajmphaaRefRoot
namespace Go.Proofs.Ytohgkadbajmphaa
open Go.RowKit
set_option linter.unusedVariables false
theorem info_int : (Try.prog.info? 3).map (fun i => (i.zero, i.size, i.bytes)) = some (some (.int .i64 0), 1, 8) := by kernel_rfl
theorem info_u32 : (Try.prog.info? 74).map (fun i => (i.zero, i.size, i.bytes)) = some (some (.int .u32 0), 1, 4) := by kernel_rfl
theorem Own.empty1 (w : World) (base : Nat) (e : TypeId) (hb : base ≤ w.heap.size) : Own (w.alloc (.cells #[] e)) base e 1 (some ⟨w.heap.size, 0, none⟩) 0 0 [] :=
  Own.made w #[] e (0, 0) 1 0 0 [] hb rfl (Nat.le_refl _) (Nat.zero_le _) (Nat.zero_le _) (.inr rfl) (fun j u hu => by simp at hu)
/-- make([]E, 0) -/
theorem wpList_make0 {ops : Array Oper} {rest : List Oper} {a : Act} {w : World} {Q : Exit → Act → World → Prop} {dst : Option Tmp} {ty : TypeId} {pos : String} {af : Array Edge} {g : Option (Nat × Bool)} {t : TypeId}
    (e : TypeId) (z : Value) (bytes : Nat) (ht : Try.prog.underlying t = some (.slice e)) (hinfo : (Try.prog.info? e).map (fun i => (i.zero, i.size, i.bytes)) = some (some z, 1, bytes))
    (base : Nat) (hw : Region.wanted ⟨dst, .makeSlice t (.const (.int .i64 0)) (.const (.int .i64 0)), ty, pos, af, g⟩ (yielded ops a.tmps) = true) (hb : base ≤ w.heap.size)
    (h : ∀ w', Own w' base e 1 (some ⟨w.heap.size, 0, none⟩) 0 0 [] → Below w.heap.size w w' → w.heap.size < w'.heap.size →
      wpList Try.prog ops Q rest (a.put dst (.slice (some ⟨w.heap.size, 0, none⟩) 0 0)) w') :
    wpList Try.prog ops Q (⟨dst, .makeSlice t (.const (.int .i64 0)) (.const (.int .i64 0)), ty, pos, af, g⟩ :: rest) a w := by
  obtain ⟨i0, hi, hz0, hz1, hz2⟩ := info_parts hinfo
  have hr := run_make (P := Try.prog) w t e i0 z ht hi hz0 .i64 .i64 0 0 (by omega) (by omega) (by omega) (by omega)
  simp only [Int.toNat_zero, Nat.zero_mul] at hr
  refine wpList_value hw (v := .slice (some ⟨w.heap.size, 0, none⟩) 0 0) (w' := w.alloc (.cells (madeCells z.cells 0) e)) ?_ (h _ ?_ ?_ ?_)
  · simp only [execOp, Act.eval, Sem.run_bind, hr, Result.andThen_ok, Sem.run_pure]
  · exact Own.made w _ e (0, 0) 1 0 0 [] hb rfl (Nat.le_refl _) (Nat.zero_le _) (by omega) (.inr rfl) (fun j u hu => by simp at hu)
  · exact ⟨rfl, rfl, rfl, by simp, fun k hk => Below.heap_alloc w _ k hk⟩
  · simp
/-- append of one element of one cell -/
theorem wpList_app1 {ops : Array Oper} {rest : List Oper} {o : Oper} {a : Act} {w : World} {Q : Exit → Act → World → Prop} (hw : Region.wanted o (yielded ops a.tmps) = true) (s x : Operand) (t e : TypeId) (z v : Value) (bytes : Nat)
    (ho : o.op = .call { callee := .builtin .append, args := #[s, x], argTypes := #[t, t] }) (ht : Try.prog.underlying t = some (.slice e))
    (hinfo : (Try.prog.info? e).map (fun i => (i.zero, i.size, i.bytes)) = some (some z, 1, bytes)) (hz : z.cells.size = 1) (hb8 : bytes ≤ 8) (hv : v.oneCell' = true)
    (base : Nat) (A : Option Addr) (n cap : Nat) (xs : List Value) (hs : a.eval s = .slice A n cap) (hown : Own w base e 1 A n cap xs)
    (A1 : Option Addr) (c1 : Nat) (hx : a.eval x = .slice A1 1 c1) (hxr : Row w w.heap.size A1 [v])
    (hfit : n ≤ 1000000) (hbase : base ≤ w.heap.size)
    (h : ∀ A2 cap2 w', Own w' base e 1 A2 (n + 1) cap2 (xs ++ [v]) → w.grownBy w' (blk A) → Below base w w' → (blk A2 = blk A ∨ blk A2 = some w.heap.size) → wpList Try.prog ops Q rest (a.put o.dst (.slice A2 (n + 1) cap2)) w') :
    wpList Try.prog ops Q (o :: rest) a w := by
  obtain ⟨i0, hi, hz0, hz1, hz2⟩ := info_parts hinfo
  have hle := hown.le
  refine wpList_append_gen w hw s x t t ho base e i0 z 1 bytes ht (.inl ⟨_, ht⟩) hi hz0 hz1 hz2 hz A n cap xs hs hown 1 [v] (by rw [hx]; exact Src.slice rfl hxr) (by intro u hu; simp at hu; subst hu; exact hv) ?_ ?_ hbase ?_
  · unfold maxLen; omega
  · by_cases hroom : n + 1 ≤ cap
    · exact .inl hroom
    · right
      obtain rfl : cap = n := by omega
      have : cap * bytes ≤ 1000000 * 8 := Nat.mul_le_mul hfit hb8
      exact growslice_fits_succ (by omega) (by omega)
  · intro A' cap' w' hO hg hor
    refine h A' cap' w' hO hg (below_grown hg hbase fun g e => (hown.lt g e).1) ?_
    rcases hor with ⟨_, rfl, _⟩ | ⟨rfl, _⟩
    · exact .inl rfl
    · exact .inr rfl
abbrev ints (l : List Nat) : List Value := l.map fun (x : Nat) => Value.int .i64 (x : Int)
theorem primesTo_succ (i : Nat) : RefP.primesTo (i + 1) = if RefP.isPrime i then RefP.primesTo i ++ [i] else RefP.primesTo i := by
  unfold RefP.primesTo
  rw [List.range_succ, List.filter_append]
  by_cases h : RefP.isPrime i <;> simp [h]
set_option maxRecDepth 4000 in
set_option maxHeartbeats 1000000 in
theorem ref_primes (w : World) : Calls Try.prog 61 #[.int .i64 64] w fun e w' => ∃ A cap, e = .returned (.slice A 64 cap) ∧ Own w' w.heap.size 3 1 A 64 cap (ints RefP.primes) ∧ Below w.heap.size w w' := by
  go_enter Try.func61, Try.ntmps61
  go_wp2_with (refine wpList_make0 3 (.int .i64 0) 8 Try.underlying67 info_int w.heap.size rfl (Nat.le_refl _) ?_; intro w1 hE hB1 hs1)
  go_loopw [3, 4] (fun s x wr => ∃ i A n cap, x = .int .i64 ((i : Nat) : Int) ∧ i ≤ 312 ∧ s = .slice A n cap ∧ n = (RefP.primesTo i).length ∧ Own wr w.heap.size 3 1 A n cap (ints (RefP.primesTo i)) ∧ Below w.heap.size w wr) (fun _ x _ => 313 - (intOf x).toNat)
  case atStart => exact ⟨2, _, 0, 0, rfl, by omega, rfl, by decide +kernel, by rw [show RefP.primesTo 2 = [] by decide +kernel]; exact hE, hB1⟩
  case round =>
    obtain ⟨i, A, n, cap, rfl, hi, rfl, hn, hO, hBr⟩ := hrel
    have HN := Lib.hid hn
    have hs := hBr.size
    by_cases hlt : i < 312
    · have h64 : n < 64 := by rw [hn]; exact RefP.primes_less i hlt
      have HP := ref_prime i (by omega) wr
      clear hn
      by_cases hp : RefP.isPrime i = true
      · rw [hp] at HP
        have HPT := Lib.hid (show RefP.primesTo (i + 1) = RefP.primesTo i ++ [i] by rw [primesTo_succ, if_pos hp])
        have HP' := Lib.hid HP
        clear HP
        go_wp2_with (first
          | (go_at_call 82; refine HP'.out.mono ?_; rintro e w' ⟨rfl, rfl⟩)
          | (at_builtin; refine wpList_app1 rfl (.tmp 14) (.tmp 16) 67 3 (.int .i64 0) (.int .i64 (i : Int)) 8 rfl Try.underlying67 info_int rfl (by omega) rfl w.heap.size _ _ _ _ rfl (hO.alloc _) _ 1 rfl (Row.new _ _ _ _ _ _ rfl (by simp) _ rfl) (by omega) (by simp; omega) ?_; intro A3 cap3 w3 hO3 hg3 hB3 hb3))
        go_roundw
        case rel => exact ⟨i + 1, A3, n + 1, cap3, by go_num, by omega, rfl, by rw [HPT.out, List.length_append, ← HN.out]; rfl, by rw [HPT.out]; unfold ints; rw [List.map_append]; exact hO3, (hBr.alloc (by omega) _).trans hB3⟩
        case measure => simp [intOf]; omega
      · have hp' : RefP.isPrime i = false := by simpa using hp
        rw [hp'] at HP
        have HPT := Lib.hid (show RefP.primesTo (i + 1) = RefP.primesTo i by rw [primesTo_succ, if_neg hp])
        have HP' := Lib.hid HP
        clear HP hp hp'
        go_wp2_with (go_at_call 82; refine HP'.out.mono ?_; rintro e w' ⟨rfl, rfl⟩)
        go_roundw
        case rel => exact ⟨i + 1, A, n, cap, by go_num, by omega, rfl, by rw [HPT.out, ← HN.out], by rw [HPT.out]; exact hO, hBr⟩
        case measure => simp [intOf]; omega
    · obtain rfl : i = 312 := by omega
      have h64 : n = 64 := by rw [hn]; exact RefP.primes_len
      subst h64
      clear hn HN
      go_wp2_with fail
      go_ret
      exact ⟨A, cap, rfl, hO, hBr⟩
end Go.Proofs.Ytohgkadbajmphaa
