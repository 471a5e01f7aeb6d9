/- The walks of sha's constants and first. -/
import Derived.Test.YtohgkadbajmphaaSha
import Derived.Test.YtohgkadbajmphaaArr
import Derived.Deep.MidRow
namespace Go.Proofs.Ytohgkadbajmphaa
open Go.RowKit
set_option linter.unusedVariables false
def kvals : Array Value := #[.int .u32 1116352408, .int .u32 1899447441, .int .u32 3049323471, .int .u32 3921009573, .int .u32 961987163, .int .u32 1508970993, .int .u32 2453635748, .int .u32 2870763221, .int .u32 3624381080, .int .u32 310598401, .int .u32 607225278, .int .u32 1426881987, .int .u32 1925078388, .int .u32 2162078206, .int .u32 2614888103, .int .u32 3248222580, .int .u32 3835390401, .int .u32 4022224774, .int .u32 264347078, .int .u32 604807628, .int .u32 770255983, .int .u32 1249150122, .int .u32 1555081692, .int .u32 1996064986, .int .u32 2554220882, .int .u32 2821834349, .int .u32 2952996808, .int .u32 3210313671, .int .u32 3336571891, .int .u32 3584528711, .int .u32 113926993, .int .u32 338241895, .int .u32 666307205, .int .u32 773529912, .int .u32 1294757372, .int .u32 1396182291, .int .u32 1695183700, .int .u32 1986661051, .int .u32 2177026350, .int .u32 2456956037, .int .u32 2730485921, .int .u32 2820302411, .int .u32 3259730800, .int .u32 3345764771, .int .u32 3516065817, .int .u32 3600352804, .int .u32 4094571909, .int .u32 275423344, .int .u32 430227734, .int .u32 506948616, .int .u32 659060556, .int .u32 883997877, .int .u32 958139571, .int .u32 1322822218, .int .u32 1537002063, .int .u32 1747873779, .int .u32 1955562222, .int .u32 2024104815, .int .u32 2227730452, .int .u32 2361852424, .int .u32 2428436474, .int .u32 2756734187, .int .u32 3204031479, .int .u32 3329325298]
def hvals : Array Value := #[.int .u32 1779033703, .int .u32 3144134277, .int .u32 1013904242, .int .u32 2773480762, .int .u32 1359893119, .int .u32 2600822924, .int .u32 528734635, .int .u32 1541459225]
theorem kvals_eq : kvals = (u32s ShaP.K).toArray := by kernel_rfl
theorem hvals_eq : hvals = (u32s ShaP.first.list).toArray := by kernel_rfl
def kzeros : Array Value := Array.replicate 64 (.int .u32 0)
theorem ArrV.stored {w : World} {g : Nat} {xs vs : List Value} (h : ArrV w g xs) (hl : vs.length = xs.length) : ArrV (w.setCells g 0 vs) g vs := by
  obtain ⟨e, h⟩ := h
  refine ⟨e, ?_⟩
  rw [heap_setCells g e (0, 0) vs 0 w _ h]
  congr 2
  have hsz := putAt_size vs 0 xs.toArray
  apply Array.ext
  · rw [hsz]; simp [hl]
  · intro i h1 h2
    have h3 : vs[i]? = some vs[i] := List.getElem?_eq_getElem (by simpa using h2)
    have := putAt_in vs 0 xs.toArray i vs[i] h3 (by simp [hl])
    rw [Nat.zero_add] at this
    have h4 := Array.getElem?_eq_getElem h1
    rw [this] at h4
    injection h4 with h4
    simp [h4]
theorem ArrV.there {w : World} {g : Nat} {xs : List Value} (h : ArrV w g xs) : w.there g 0 xs.length := fun j hj => by
  rw [Nat.zero_add]
  exact ⟨by rw [h.cell hj]; rfl, h.frozen j⟩
theorem ArrV.range {w : World} {g : Nat} {xs : List Value} (h : ArrV w g xs) : w.rangeAt g 0 xs := fun j v hv => by
  rw [Nat.zero_add]
  obtain ⟨hj, e⟩ := List.getElem?_eq_some_iff.1 hv
  rw [h.cell hj, e]
set_option maxRecDepth 100000 in
set_option maxHeartbeats 1000000 in
theorem sha_constants (w : World) : Calls Try.prog 42 #[] w fun e w' => e = .returned (.agg kvals) ∧ Below w.heap.size w w' := by
  go_enter Try.func42, Try.ntmps42
  go_wp2_with (first
    | (refine wpList_value (o := ⟨some 0, _, _, _, _, _⟩) (v := .pointer (some ⟨w.heap.size, 0, none⟩)) (w' := w.alloc (.cells kzeros 86)) rfl (by kernel_rfl) ?_)
    | (refine wpList_value (o := ⟨some 1, _, _, _, _, _⟩) (v := .agg kvals) rfl (by kernel_rfl) ?_)
    | (refine wpList_store_mid rfl 86 (.tmp 0) (.tmp 1) rfl w.heap.size 0 kvals rfl rfl (ArrV.made w kzeros _).there (by kernel_rfl) (by kernel_rfl) ?_))
  have hA : ArrV ((w.alloc (.cells kzeros 86)).setCells w.heap.size 0 kvals.toList) w.heap.size kvals.toList := (ArrV.made w kzeros _).stored (by kernel_rfl)
  have hl := run_loadVar_mid (P := Try.prog) _ w.heap.size 0 86 kvals.toList _ hA.range Try.underlying86 rfl (by kernel_rfl)
  have hB : Below w.heap.size w ((w.alloc (.cells kzeros 86)).setCells w.heap.size 0 kvals.toList) :=
    ((Below.refl _ _).alloc (Nat.le_refl _) _).trans (below_grown (grown_setCells w.heap.size kvals.toList 0 _) (by simp) (fun g e => by injection e with e; omega))
  rw [Array.toArray_toList] at hl
  have HB := Lib.hid hB
  clear hB hA
  refine bodyPost_ret (v := .agg kvals) ?_ rfl ⟨rfl, HB.out⟩
  generalize (w.alloc (.cells kzeros 86)).setCells w.heap.size 0 kvals.toList = W at *
  obtain ⟨g, hg⟩ : ∃ g, g = w.heap.size := ⟨_, rfl⟩
  rw [← hg] at hl ⊢
  clear HB hg
  simp [results, Try.results42, Act.put, asAddr, hl]
set_option maxRecDepth 100000 in
theorem sha_first (w : World) : Calls Try.prog 43 #[] w fun e w' => e = .returned (.agg hvals) ∧ Below w.heap.size w w' := by
  go_enter Try.func43, Try.ntmps43
  go_wp2_with fail
  exact bodyPost_ret (v := .agg hvals) (by simp [results, Try.results43, go_sem, hvals]) rfl ⟨rfl, (Below.refl _ _).alloc (Nat.le_refl _) _⟩
def dzeros : Array Value := Array.replicate 32 (.int .u8 0)
theorem kz_there (W : World) : (W.alloc (.cells kzeros 86)).there W.heap.size 0 kvals.size := (ArrV.made W kzeros _).there
theorem kz_stored (W : World) : ArrV ((W.alloc (.cells kzeros 86)).setCells W.heap.size 0 kvals.toList) W.heap.size (u32s ShaP.K) := by
  have h := (ArrV.made W kzeros 86).stored (vs := kvals.toList) (by kernel_rfl)
  rw [kvals_eq] at h
  rw [kvals_eq]
  exact h
theorem kz_below (W : World) : Below W.heap.size W ((W.alloc (.cells kzeros 86)).setCells W.heap.size 0 kvals.toList) :=
  ((Below.refl _ _).alloc (Nat.le_refl _) _).trans (below_grown (grown_setCells W.heap.size kvals.toList 0 _) (by simp) (fun g e => by injection e with e; omega))
theorem kz_size (W : World) : ((W.alloc (.cells kzeros 86)).setCells W.heap.size 0 kvals.toList).heap.size = W.heap.size + 1 := by rw [size_setCells]; simp
theorem dz_made (W : World) : ArrV (W.alloc (.cells dzeros 23)) W.heap.size ((List.replicate 32 (0 : UInt8)).map b8) := by
  have h := ArrV.made W dzeros 23
  have e : dzeros.toList = (List.replicate 32 (0 : UInt8)).map b8 := by kernel_rfl
  rwa [e] at h
attribute [irreducible] kvals kzeros dzeros
end Go.Proofs.Ytohgkadbajmphaa
