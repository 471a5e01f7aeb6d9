/- Single operations of a walk as laws: conversions between bytes and text. -/
import Derived.Test.YtohgkadbajmphaaOwn
import Derived.Test.YtohgkadbajmphaaNum
import Derived.Laws.IdiomStrings
namespace Go.Proofs.Ytohgkadbajmphaa
open Go.RowKit
theorem ba_append (a b : List UInt8) : (⟨a.toArray⟩ : ByteArray) ++ ⟨b.toArray⟩ = ⟨(a ++ b).toArray⟩ := by
  apply ByteArray.ext
  rw [ByteArray.data_append]
  simp
theorem wpList_value {P : Program} {ops : Array Oper} {rest : List Oper} {o : Oper} {a : Act} {w w' : World} {v : Value} {Q : Exit → Act → World → Prop}
    (hw : Region.wanted o (yielded ops a.tmps) = true) (hr : (execOp a.eval o).run P w = .ok (.value v) w') (h : wpList P ops Q rest (a.put o.dst v) w') : wpList P ops Q (o :: rest) a w := by
  unfold wpList
  rw [if_pos hw]
  left
  unfold Oper.wp
  rw [hr]
  exact h
theorem Row.toBytes {P : Program} {w : World} {B : Nat} {A : Option Addr} {n c : Nat} {l : List UInt8} (src dst e : TypeId) (hs : P.underlying src = some (.slice e)) (he : P.underlying e = some (.int .u8)) (hd : P.underlying dst = some .string)
    (hn : l.length = n) (hr : Row w B A (l.map b8)) : (convert src dst (.slice A n c)).run P w = .ok (.string ⟨l.toArray⟩) w := by
  subst hn
  rcases A with _ | ad
  · have : l = [] := by
      rcases l with _ | ⟨x, r⟩
      · rfl
      · obtain ⟨_, h, _⟩ := hr 0 _ rfl; cases h
    subst this
    exact run_convert_bytes_nil w src e hs he 0 c dst hd
  · exact run_convert_bytes_back w src dst e ad c l hs he hd (fun j hj => by
      obtain ⟨ad', h, _, hc⟩ := hr j (b8 l[j]) (by simp [hj])
      injection h with h
      subst h
      exact hc)
/-- string(b) -/
theorem wpList_str {P : Program} {ops : Array Oper} {rest : List Oper} {a : Act} {w : World} {Q : Exit → Act → World → Prop} {dst : Option Tmp} {src d ty : TypeId} {x : Operand} {pos : String} {af : Array Edge} {g : Option (Nat × Bool)} {e : TypeId}
    (hs : P.underlying src = some (.slice e)) (he : P.underlying e = some (.int .u8)) (hd : P.underlying d = some .string)
    (A : Option Addr) (n c B : Nat) (l : List UInt8) (hx : a.eval x = .slice A n c) (hw : Region.wanted ⟨dst, .convert src d x, ty, pos, af, g⟩ (yielded ops a.tmps) = true)
    (hn : l.length = n) (hr : Row w B A (l.map b8)) (h : wpList P ops Q rest (a.put dst (.string ⟨l.toArray⟩)) w) :
    wpList P ops Q (⟨dst, .convert src d x, ty, pos, af, g⟩ :: rest) a w := by
  refine wpList_value hw (v := .string ⟨l.toArray⟩) (w' := w) ?_ h
  have := Row.toBytes (P := P) (c := c) src d e hs he hd hn hr
  simp only [execOp, hx, Sem.run_bind, this, Result.andThen_ok, Sem.run_pure]
/-- []byte(s) -/
theorem wpList_bytes {P : Program} {ops : Array Oper} {rest : List Oper} {a : Act} {w : World} {Q : Exit → Act → World → Prop} {dst : Option Tmp} {src d ty : TypeId} {x : Operand} {pos : String} {af : Array Edge} {g : Option (Nat × Bool)} {e : TypeId}
    (hs : P.underlying src = some .string) (hd : P.underlying d = some (.slice e)) (he : P.underlying e = some (.int .u8))
    (base : Nat) (l : List UInt8) (hx : a.eval x = .string ⟨l.toArray⟩) (hw : Region.wanted ⟨dst, .convert src d x, ty, pos, af, g⟩ (yielded ops a.tmps) = true) (hb : base ≤ w.heap.size) (hm : l.length ≤ maxLen)
    (h : ∀ cap w', Own w' base e 1 (some ⟨w.heap.size, 0, none⟩) l.length cap (l.map b8) → Below w.heap.size w w' → w'.heap.size = w.heap.size + 1 →
      wpList P ops Q rest (a.put dst (.slice (some ⟨w.heap.size, 0, none⟩) l.length cap)) w') :
    wpList P ops Q (⟨dst, .convert src d x, ty, pos, af, g⟩ :: rest) a w := by
  have hr := run_bytes_of_string (P := P) w src d e ⟨l.toArray⟩ hs hd he
  have hz : (⟨l.toArray⟩ : ByteArray).size = l.length := by show l.toArray.size = _; simp
  rw [hz] at hr
  have hge := grownCap_ge w l.length 0 e
  have hsz : (bytesRow ⟨l.toArray⟩ (grownCap w l.length 0 e)).size = grownCap w l.length 0 e := by
    unfold bytesRow
    rw [Array.size_append, Array.size_map, Array.size_replicate, hz]
    show l.toArray.size + _ = _
    simp
    omega
  refine wpList_value hw (v := .slice (some ⟨w.heap.size, 0, none⟩) l.length (grownCap w l.length 0 e))
    (w' := w.drew.alloc (.cells (bytesRow ⟨l.toArray⟩ (grownCap w l.length 0 e)) e ((bytesRow ⟨l.toArray⟩ (grownCap w l.length 0 e)).size, (bytesRow ⟨l.toArray⟩ (grownCap w l.length 0 e)).size + 1))) ?_ (h _ _ ?_ ?_ ?_)
  · simp only [execOp, hx, Sem.run_bind, hr, Result.andThen_ok, Sem.run_pure]
  · refine Own.made w.drew _ e _ 1 l.length _ _ hb (by simp) hge (grownCap_le_maxLen w _ 0 e hm) (by rw [hsz]; omega) (.inl (Nat.le_refl _)) (fun j u hu => ?_)
    have hj : j < l.length := by have := (List.getElem?_eq_some_iff.1 hu).1; simpa using this
    rw [bytesRow_at _ _ _ (by simpa using hj)]
    simp [hj] at hu
    rw [← hu]
    simp
  · exact ⟨rfl, rfl, rfl, by simp, fun k hk => Below.heap_alloc w.drew _ k hk⟩
  · simp
end Go.Proofs.Ytohgkadbajmphaa
