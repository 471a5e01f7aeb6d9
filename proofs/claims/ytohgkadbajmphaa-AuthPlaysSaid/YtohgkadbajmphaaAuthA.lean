/- Plain law: tokens over lists of bytes. No program in sight. -/
import Derived.Test.YtohgkadbajmphaaBinB
import Derived.Test.YtohgkadbajmphaaBinA
import Derived.Test.YtohgkadbajmphaaShaP
import Derived.Test.YtohgkadbajmphaaChain
import Derived.Test.YtohgkadbajmphaaExtF
import Derived.Lib.Builder
import Derived.Lib.Bytealg
import Derived.Lib.UnsafeStr
import Derived.Lib.AppendStr
import Derived.Lib.Strings
import Derived.Lib.Walk
import Derived.Laws.Externs
import Derived.Test.YtohgkadbajmphaaShaHex
import Derived.Test.YtohgkadbajmphaaRefSum
namespace Go.Proofs.Ytohgkadbajmphaa.AuthP
set_option linter.unusedVariables false
open BinP
abbrev Bs := List UInt8
/-- a claim -/
structure Cl where
  dev : Nat
  epoch : Nat
  num : Nat
  over : Nat
  deriving DecidableEq
def body (c : Cl) : Bs := enc c.dev ++ enc c.epoch ++ enc c.num ++ enc c.over
def head : Bs := [118, 49, 46]
def tok (key : Bs) (c : Cl) : Bs := head ++ (ShaP.hex (body c) ++ ([46] ++ ShaP.hex (ShaP.mac key (body c))))
/-- cut at the first point -/
def split : Bs → Option (Bs × Bs)
  | [] => none
  | x :: r => if x = 46 then some ([], r) else (split r).map fun p => (x :: p.1, p.2)
def claim (b : Bs) : Option Cl :=
  if (pUint (pUint (pUint (pInt 15 (some b)).2).2).2).2 = some [] ∧ (pUint (pInt 15 (some b)).2).1 ≤ 1099511627776 ∧ 1 ≤ (pUint (pUint (pInt 15 (some b)).2).2).1 ∧ 1 ≤ (pUint (pUint (pUint (pInt 15 (some b)).2).2).2).1 ∧ (pUint (pUint (pUint (pInt 15 (some b)).2).2).2).1 ≤ 2305843009213693952
  then some ⟨(pInt 15 (some b)).1, (pUint (pInt 15 (some b)).2).1, (pUint (pUint (pInt 15 (some b)).2).2).1, (pUint (pUint (pUint (pInt 15 (some b)).2).2).2).1⟩ else none
/-- a token's claim, the body's bytes, the digest's digits -/
def parse (t : Bs) : Option (Cl × Bs × Bs) :=
  if t.take 3 = head then
    match split (t.drop 3) with
    | none => none
    | some (f, s) => if f.all ShaP.isd = true ∧ f.length % 2 = 0 ∧ s.all ShaP.isd = true ∧ s.length = 64 then (claim (ShaP.unhex f)).map fun c => (c, ShaP.unhex f, s) else none
  else none
theorem pUint_enc' (v : Nat) (r : Bs) (h : v < two64) : pUint (some (enc v ++ r)) = (v, some r) := by
  simp [pUint, num_enc v r h]
theorem pInt_enc' (v : Nat) (r : Bs) (a : Int) (h : v < two64) (ha : (v : Int) ≤ a) : pInt a (some (enc v ++ r)) = (v, some r) := by
  simp [pInt, num_enc v r h, show ¬ (a < 0 ∨ a < (v : Int)) by omega]
/-- what a keeper lays -/
def good (c : Cl) : Prop := c.dev ≤ 15 ∧ c.epoch ≤ 1099511627776 ∧ 1 ≤ c.num ∧ c.num < two64 ∧ 1 ≤ c.over ∧ c.over ≤ 2305843009213693952
theorem claim_body (c : Cl) (h : good c) : claim (body c) = some c := by
  obtain ⟨h1, h2, h3, h4, h5, h6⟩ := h
  have e2 := two64_eq
  have p1 : pInt 15 (some (body c)) = (c.dev, some (enc c.epoch ++ enc c.num ++ enc c.over)) := by
    unfold body
    rw [List.append_assoc, List.append_assoc, pInt_enc' _ _ _ (by omega) (by omega), List.append_assoc]
  have p2 : pUint (some (enc c.epoch ++ enc c.num ++ enc c.over)) = (c.epoch, some (enc c.num ++ enc c.over)) := by
    rw [List.append_assoc, pUint_enc' _ _ (by omega)]
  have p3 : pUint (some (enc c.num ++ enc c.over)) = (c.num, some (enc c.over)) := pUint_enc' _ _ h4
  have p4 : pUint (some (enc c.over)) = (c.over, some []) := by
    have := pUint_enc' c.over [] (by omega)
    rwa [List.append_nil] at this
  unfold claim
  simp only [p1, p2, p3, p4]
  rw [if_pos ⟨trivial, h2, h3, h5, h6⟩]
theorem split_at : ∀ (f s : Bs), f.all ShaP.isd = true → split (f ++ 46 :: s) = some (f, s)
  | [], s, _ => by simp [split]
  | x :: r, s, h => by
    simp only [List.all_cons, Bool.and_eq_true] at h
    have hx : x ≠ 46 := fun e => by rw [e] at h; exact absurd h.1 (by decide)
    rw [List.cons_append, split, if_neg hx, split_at r s h.2]
    rfl
theorem split_eq : ∀ {t f s : Bs}, split t = some (f, s) → t = f ++ 46 :: s ∧ ∀ x ∈ f, x ≠ 46
  | [], f, s, h => by simp [split] at h
  | x :: r, f, s, h => by
    rw [split] at h
    split at h
    · rename_i hx
      simp only [Option.some.injEq, Prod.mk.injEq] at h
      obtain ⟨rfl, rfl⟩ := h
      exact ⟨by rw [hx]; rfl, fun x hx => by cases hx⟩
    · rename_i hx
      obtain ⟨⟨a, b⟩, h1, h2⟩ := Option.map_eq_some_iff.1 h
      simp only [Prod.mk.injEq] at h2
      obtain ⟨rfl, rfl⟩ := h2
      obtain ⟨e1, e2⟩ := split_eq h1
      refine ⟨by rw [e1]; rfl, fun y hy => ?_⟩
      rcases List.mem_cons.1 hy with rfl | hy
      · exact hx
      · exact e2 y hy
theorem parse_tok (key : Bs) (c : Cl) (h : good c) : parse (tok key c) = some (c, body c, ShaP.hex (ShaP.mac key (body c))) := by
  unfold parse tok
  have e1 : (head ++ (ShaP.hex (body c) ++ ([46] ++ ShaP.hex (ShaP.mac key (body c))))).take 3 = head := List.take_left' rfl
  have e2 : (head ++ (ShaP.hex (body c) ++ ([46] ++ ShaP.hex (ShaP.mac key (body c))))).drop 3 = ShaP.hex (body c) ++ 46 :: ShaP.hex (ShaP.mac key (body c)) := List.drop_left' rfl
  rw [if_pos e1, e2, split_at _ _ (ShaP.hex_all _)]
  simp only
  rw [if_pos ⟨ShaP.hex_all _, by rw [ShaP.hex_len]; omega, ShaP.hex_all _, by rw [ShaP.hex_len, ShaP.mac_len]⟩, ShaP.unhex_hex, claim_body c h]
  rfl
/-- what a keeper answers: the error, and the claim if there is none -/
def verifyE (key : Bs) (issued : Nat) (rev : Nat → Bool) (t : Bs) (now : Int) : Int :=
  match parse t with
  | none => 8
  | some (c, b, s) => if ShaP.hex (ShaP.mac key b) ≠ s ∨ issued < c.num then 8 else if rev c.num = true then 10 else if (c.over : Int) ≤ now then 9 else 0
def none0 : Cl := ⟨0, 0, 0, 0⟩
def verifyC (key : Bs) (issued : Nat) (rev : Nat → Bool) (t : Bs) (now : Int) : Cl :=
  match parse t with
  | none => none0
  | some (c, b, s) => if ShaP.hex (ShaP.mac key b) ≠ s ∨ issued < c.num then none0 else if rev c.num = true then none0 else if (c.over : Int) ≤ now then none0 else c
theorem claim_bound {b : Bs} {c : Cl} (h : claim b = some c) : c.dev ≤ 15 ∧ c.epoch ≤ 1099511627776 ∧ 1 ≤ c.num ∧ 1 ≤ c.over ∧ c.over ≤ 2305843009213693952 := by
  unfold claim at h
  split at h
  · rename_i hc
    simp only [Option.some.injEq] at h
    subst h
    refine ⟨?_, hc.2.1, hc.2.2.1, hc.2.2.2.1, hc.2.2.2.2⟩
    show (pInt 15 (some b)).1 ≤ 15
    simp only [pInt]
    split
    · exact Nat.zero_le _
    · split
      · exact Nat.zero_le _
      · simp only; omega
  · cases h
theorem tok_inj {key : Bs} {c d : Cl} (hc : good c) (hd : good d) (h : tok key c = tok key d) : c = d := by
  have h1 := parse_tok key c hc
  rw [h, parse_tok key d hd] at h1
  simp only [Option.some.injEq, Prod.mk.injEq] at h1
  exact h1.1.symm
end Go.Proofs.Ytohgkadbajmphaa.AuthP
namespace Go.Proofs.Ytohgkadbajmphaa
open Go.RowKit
set_option linter.unusedVariables false
theorem size_builder : (Try.prog.info? 128).map (·.size) = some 2 := by kernel_rfl
theorem lies_builder : liesAt Try.prog Try.prog.depth 128 (2 / Try.prog.cellsOf 128) 0 128 1 = true := by kernel_rfl
abbrev IsB (b : Nat) (l : List UInt8) (B : Nat) (w : World) : Prop := Lib.IsBuilder 128 5 B b (l.map b8) w
set_option maxRecDepth 100000 in
set_option maxHeartbeats 1000000 in
theorem copyCheck_used (b : Nat) (w : World) (h0 : w.cell? ⟨b, 0, none⟩ = some (.pointer (some ⟨b, 0, none⟩))) :
    Calls Try.prog 86 #[.pointer (some ⟨b, 0, none⟩)] w fun e w' => e = .returned (.tuple #[]) ∧ w' = w := by
  obtain ⟨j, hj, _⟩ := Option.map_eq_some_iff.1 size_builder
  go_enter Try.func86, Try.ntmps86
  go_wp2
  rw [Lib.run_neq_ptr_same w _ Try.underlying126 hj]
  go_wp2
  go_end0
  exact ⟨rfl, rfl⟩
set_option maxRecDepth 100000 in
set_option maxHeartbeats 1000000 in
theorem copyCheck_fresh (b : Nat) (w : World) (h0 : w.cell? ⟨b, 0, none⟩ = some (.pointer none)) (hsh : w.shape? b = some (128, 2)) (hfz : w.frozen? ⟨b, 0, none⟩ = false) :
    Calls Try.prog 86 #[.pointer (some ⟨b, 0, none⟩)] w fun e w' => e = .returned (.tuple #[]) ∧ w' = w.setCell ⟨b, 0, none⟩ (.pointer (some ⟨b, 0, none⟩)) := by
  obtain ⟨j, hj, hjs⟩ := Option.map_eq_some_iff.1 size_builder
  go_enter Try.func86, Try.ntmps86
  go_wp2
  rw [Lib.run_to_unsafe w ⟨b, 0, none⟩ Try.underlying126 Try.underlying163 hj (by rw [hjs]; decide) hsh (Nat.zero_lt_succ 1)]
  simp only [Result.andThen]
  rw [Oper.upon_value]
  go_wp2
  rw [run_callFunc_extern Try.func95 (by kernel_rfl) (by kernel_rfl) (by kernel_rfl) (e := Extern.AbiNoEscape.same) (by kernel_rfl)]
  rw [Lib.run_noEscape]
  simp only [Result.andThen]
  rw [Oper.upon_value]
  go_wp2
  rw [Lib.run_from_unsafe w ⟨b, 0, none⟩ Try.underlying163 Try.underlying126 hj hsh lies_builder]
  simp only [Result.andThen]
  rw [Oper.upon_value]
  go_wp2
  go_end0
  exact ⟨rfl, rfl⟩
theorem copyCheck (B b : Nat) (bs : List Value) (w : World) (h : Lib.IsBuilder 128 5 B b bs w) :
    Calls Try.prog 86 #[.pointer (some ⟨b, 0, none⟩)] w fun e w' => e = .returned (.tuple #[]) ∧ (Lib.BuilderAt 128 5 B b (.pointer (some ⟨b, 0, none⟩)) bs w' ∧ Below B w w') := by
  rcases h with h | h
  · refine (copyCheck_fresh b w h.cell0 h.shape h.frozen0).mono ?_
    rintro e w' ⟨rfl, rfl⟩
    exact ⟨rfl, h.used _, (Below.refl B w).setCell (p := ⟨b, 0, none⟩) h.1 _⟩
  · refine (copyCheck_used b w h.cell0).mono ?_
    rintro e w' ⟨rfl, rfl⟩
    exact ⟨rfl, h, Below.refl B _⟩
set_option maxRecDepth 100000 in
set_option maxHeartbeats 1000000 in
theorem writeByte (B b : Nat) (l : List UInt8) (c : UInt8) (w : World) (h : IsB b l B w) (hlen : l.length + 1 ≤ 140737488355328) (hBw : B ≤ w.heap.size) :
    Calls Try.prog 66 #[.pointer (some ⟨b, 0, none⟩), .int .u8 (c.toNat : Int)] w fun e w' => e = .returned .nilIface ∧ IsB b (l ++ [c]) B w' ∧ Below B w w' := by
  obtain ⟨i0, hi, hz0, hz1, hz2⟩ := info_parts info_u8
  obtain ⟨C, hC⟩ : ∃ C : Int, C = (c.toNat : Int) := ⟨_, rfl⟩
  rw [← hC]
  have HC := Lib.hid hC
  clear hC
  have hbl : (l.map b8).length = l.length := by simp
  go_enter Try.func66, Try.ntmps66
  go_wp2_with (go_at_call 86; refine (copyCheck B b (l.map b8) _ h).mono ?_)
  rintro e w1 ⟨rfl, h1, hb1⟩
  obtain ⟨hB, v, hbk, hown, hne⟩ := h1
  have c0 : w1.cell? ⟨b, 0, none⟩ = some (.pointer (some ⟨b, 0, none⟩)) := by rw [Lib.cell_of_heap hbk]; rfl
  have c1 : w1.cell? ⟨b, 1, none⟩ = some v := by rw [Lib.cell_of_heap hbk]; rfl
  go_wp2_with (at_builtin; refine wpList_append_own _ rfl _ _ 31 rfl B 5 i0 (.int .u8 0) 1 1 Try.underlying31 hi hz0 hz1 hz2 rfl (by decide) _ _ _ rfl (hown.alloc _) ⟨w1.heap.size, 0, none⟩ 1 1 [.int .u8 C] rfl rfl ?c1 ?c2 ?c3 ?c4 ?c5 ?_)
  case c1 =>
    intro j u hj
    match j, hj with
    | 0, hj => simp at hj; subst hj; simp [Addr.add]
  case c2 => intro u hu; simp at hu; subst hu; rfl
  case c3 => unfold maxLen; omega
  case c4 => omega
  case c5 => have := hb1.size; simp; omega
  intro v' w2 hown' hgrow _
  have hlt : b < w1.heap.size := by
    rcases Nat.lt_or_ge b w1.heap.size with h' | h'
    · exact h'
    · simp [Array.getElem?_eq_none h'] at hbk
  have hb2 : w2.heap[b]? = some (.cells #[.pointer (some ⟨b, 0, none⟩), v] 128 (0, 0)) := by
    rw [hgrow.block b (by simp; omega) (fun e => hne e.symm), Lib.alloc_old w1 _ b hlt]
    exact hbk
  have d0 : w2.cell? ⟨b, 0, none⟩ = some (.pointer (some ⟨b, 0, none⟩)) := by rw [Lib.cell_of_heap hb2]; rfl
  have d1 : w2.cell? ⟨b, 1, none⟩ = some v := by rw [Lib.cell_of_heap hb2]; rfl
  have f1 : w2.frozen? ⟨b, 1, none⟩ = false := Lib.frozen_of_heap hb2 1
  obtain ⟨g, cap, rfl⟩ : ∃ g cap, v' = .slice (some ⟨g, 0, none⟩) (l.length + 1) cap := by
    rcases hown'.2 with ⟨_, h0⟩ | ⟨g, cap, cur, hv, _⟩
    · omega
    · exact ⟨g, cap, hv⟩
  clear hbl
  go_wp2
  go_ret
  refine ⟨rfl, .inr ?_, ?_⟩
  · have := Lib.BuilderAt.put (T := 128) (e := 5) hB hb2 (bs' := l.map b8 ++ [.int .u8 C]) (by simpa using hown') (by decide)
    rw [HC.out] at this
    simpa [b8] using this
  · exact ((hb1.alloc (by have := hb1.size; omega) _).grown hgrow (by have := hb1.size; simp; omega) (fun k hk => (hown.lt k hk).1)).setCell (p := ⟨b, 1, none⟩) hB _
theorem byteCells_b8 (l : List UInt8) : Lib.byteCells l = l.map b8 := by
  unfold Lib.byteCells b8
  rfl
theorem cells_byte : Try.prog.cellsOf 5 = 1 := by kernel_rfl
set_option maxRecDepth 100000 in
set_option maxHeartbeats 1000000 in
theorem builder_string (B b : Nat) (l : List UInt8) (w : World) (h : IsB b l B w) (h0 : l ≠ []) :
    Calls Try.prog 67 #[.pointer (some ⟨b, 0, none⟩)] w fun e w' => e = .returned (.string ⟨l.toArray⟩) ∧ Below B w w' := by
  obtain ⟨p, hB, v, hbk, hown, hne⟩ : ∃ p, Lib.BuilderAt 128 5 B b p (Lib.byteCells l) w := by
    rw [byteCells_b8]
    rcases h with h | h
    · exact ⟨_, h⟩
    · exact ⟨_, h⟩
  have hl0 : l.length ≠ 0 := by simpa using h0
  rw [Lib.byteCells_length] at hown
  obtain ⟨g, cap, cur, rfl, hbg, hg, hnc, hcm, hcs, htake⟩ : ∃ g cap cur, v = .slice (some ⟨g, 0, none⟩) l.length cap ∧ B ≤ g ∧ w.heap[g]? = some (.cells cur 5 (0, 0)) ∧ l.length ≤ cap ∧ cap ≤ maxLen ∧ cur.size = cap * 1 ∧ cur.toList.take (l.length * 1) = Lib.byteCells l := by
    rcases hown.2 with ⟨_, hz⟩ | ⟨g, cap, cur, hv, r⟩
    · exact absurd hz hl0
    · exact ⟨g, cap, cur, hv, r⟩
  have c1 : w.drew.cell? ⟨b, 1, none⟩ = some (.slice (some ⟨g, 0, none⟩) l.length cap) := by
    have : w.drew.heap[b]? = some (.cells #[p, .slice (some ⟨g, 0, none⟩) l.length cap] 128 (0, 0)) := hbk
    rw [Lib.cell_of_heap this]; rfl
  have hSD : (Builtin.unsafeSliceData_ #[31] 154 #[.slice (some ⟨g, 0, none⟩) l.length cap]).run Try.prog w.drew = .ok (.pointer (some ⟨g, 0, none⟩)) w.drew :=
    Lib.run_unsafeSliceData_row _ _ _ _ _ _ (by omega)
  have hUS : (Builtin.unsafeString_ #[154, 3] 9 #[.pointer (some ⟨g, 0, none⟩), .int .i64 l.length]).run Try.prog w.drew = .ok (.string ⟨l.toArray⟩) (w.drew.freeze ⟨g, 0, none⟩ l.length) := by
    refine Lib.run_unsafeString_row w.drew 154 3 9 5 Try.underlying154 cells_byte g cur.size (by have hg' : w.drew.heap[g]? = some (.cells cur 5 (0, 0)) := hg; simp [World.shape?, hg']) l h0 (by omega) (by unfold maxLen at hcm; omega) ?_
    intro j x hx
    have := hown.cells (g := g) rfl j (.int .u8 x.toNat) (by simp [Lib.byteCells, hx])
    exact this
  go_enter Try.func67, Try.ntmps67
  go_wp2
  go_region
  all_goals (go_wp2; go_ret; exact ⟨rfl, Lib.below_freeze (Below.drew (Below.refl B w)) (p := ⟨g, 0, none⟩) hbg _⟩)
set_option maxRecDepth 100000 in
set_option maxHeartbeats 1000000 in
theorem lite_indexByte (s : ByteArray) (c : Int) (w : World) :
    Calls Try.prog 98 #[.string s, .int .u8 c] w fun e w' => e = .returned (.int .i64 (Lib.indexByte s.data.toList c.toNat.toUInt8)) ∧ w = w' := by
  go_enter Try.func98, Try.ntmps98
  go_wp2
  rw [run_callFunc_extern Try.func110 (by kernel_rfl) (by kernel_rfl) (by kernel_rfl) (e := Extern.BytealgIndexByte.indexByte) (by kernel_rfl), Lib.run_indexByteString]
  simp only [Result.andThen]
  rw [Oper.upon_value]
  go_wp2
  go_ret
  exact ⟨rfl, rfl⟩
set_option maxRecDepth 100000 in
set_option maxHeartbeats 1000000 in
theorem strings_indexByte (s : ByteArray) (c : Int) (w : World) :
    Calls Try.prog 89 #[.string s, .int .u8 c] w fun e w' => e = .returned (.int .i64 (Lib.indexByte s.data.toList c.toNat.toUInt8)) ∧ w = w' := by
  go_enter Try.func89, Try.ntmps89
  go_wp2_with (go_at_call 98; refine (lite_indexByte _ _ _).mono ?_; rintro e w' ⟨rfl, rfl⟩)
  go_ret
  exact ⟨rfl, rfl⟩
end Go.Proofs.Ytohgkadbajmphaa
namespace Go.Proofs.Ytohgkadbajmphaa
open Go.RowKit
set_option linter.unusedVariables false
def dotI (t : List UInt8) : Int := match AuthP.split t with | none => -1 | some (f, _) => f.length
def dotA (t : List UInt8) : List UInt8 := match AuthP.split t with | none => t | some (f, _) => f
def dotB (t : List UInt8) : List UInt8 := match AuthP.split t with | none => [] | some (_, s) => s
theorem index_dot : ∀ t : List UInt8, Lib.indexByte t 46 = dotI t
  | [] => rfl
  | x :: r => by
    have ih := index_dot r
    unfold dotI at *
    rw [Lib.indexByte, AuthP.split]
    by_cases hx : x = 46
    · subst hx; rfl
    · rw [if_neg (by simpa using hx), if_neg hx, ih]
      rcases AuthP.split r with _ | ⟨f, s⟩
      · rfl
      · simp only [Option.map_some]
        rw [if_neg (by simp), List.length_cons]
        rfl
set_option maxRecDepth 100000 in
set_option maxHeartbeats 1000000 in
theorem lite_index (t : List UInt8) (w : World) :
    Calls Try.prog 97 #[.string ⟨t.toArray⟩, .string ⟨#[46]⟩] w fun e w' => e = .returned (.int .i64 (dotI t)) ∧ w = w' := by
  have hC := lite_indexByte ⟨t.toArray⟩ 46 w
  have e : Lib.indexByte (⟨t.toArray⟩ : ByteArray).data.toList ((46 : Int)).toNat.toUInt8 = dotI t := index_dot t
  rw [e] at hC
  have HC := Lib.hid hC
  have hs : (⟨#[46]⟩ : ByteArray).size = 1 := rfl
  clear hC e
  by_cases ht : t = [46]
  · subst ht
    go_enter Try.func97, Try.ntmps97
    go_wp2_with fail
    go_ret
    exact ⟨rfl, rfl⟩
  · have hI : ([46] == t) = false := by simpa using fun e => ht e.symm
    clear ht
    go_enter Try.func97, Try.ntmps97
    go_wp2_with (go_at_call 98; refine HC.out.mono ?_; rintro e w' ⟨rfl, rfl⟩)
    go_ret
    exact ⟨rfl, rfl⟩
theorem ba_extract (t : List UInt8) (i j : Nat) : (⟨t.toArray⟩ : ByteArray).extract i j = ⟨((t.drop i).take (j - i)).toArray⟩ := by
  apply ByteArray.ext
  simp [List.extract_eq_take_drop]
set_option maxRecDepth 100000 in
set_option maxHeartbeats 1000000 in
theorem strings_cut (t : List UInt8) (w : World) (hm : t.length ≤ 35184372088832) :
    Calls Try.prog 69 #[.string ⟨t.toArray⟩, .string ⟨#[46]⟩] w fun e w' => e = .returned (.tuple #[.string ⟨(dotA t).toArray⟩, .string ⟨(dotB t).toArray⟩, .bool (AuthP.split t).isSome]) ∧ Below w.heap.size w w' := by
  have hsz : (⟨t.toArray⟩ : ByteArray).size = t.length := by show t.toArray.size = _; simp
  have h1 : (⟨#[46]⟩ : ByteArray).size = 1 := rfl
  have HI := Lib.hid (lite_index t w)
  suffices hlite : Calls Try.prog 88 #[.string ⟨t.toArray⟩, .string ⟨#[46]⟩] w fun e w' => e = .returned (.tuple #[.string ⟨(dotA t).toArray⟩, .string ⟨(dotB t).toArray⟩, .bool (AuthP.split t).isSome]) ∧ Below w.heap.size w w' by
    have HL := Lib.hid hlite
    clear hlite hsz h1
    go_enter Try.func69, Try.ntmps69
    go_wp2_with (go_at_call 88; refine HL.out.mono ?_; rintro e w' ⟨rfl, hB⟩)
    go_ret3
    exact ⟨rfl, hB⟩
  rcases hs : AuthP.split t with _ | ⟨f, s⟩
  · have e1 : dotI t = -1 := by unfold dotI; rw [hs]
    have e2 : dotA t = t := by unfold dotA; rw [hs]
    have e3 : dotB t = [] := by unfold dotB; rw [hs]
    rw [e1] at HI
    rw [e2, e3]
    clear hs e1 e2 e3 hsz h1
    go_enter Try.func88, Try.ntmps88
    go_wp2_with (go_at_call 97; refine HI.out.mono ?_; rintro e w' ⟨rfl, rfl⟩)
    go_ret3
    exact ⟨rfl, Below.refl _ _⟩
  · have e1 : dotI t = (f.length : Int) := by unfold dotI; rw [hs]
    have e2 : dotA t = f := by unfold dotA; rw [hs]
    have e3 : dotB t = s := by unfold dotB; rw [hs]
    have ht := (AuthP.split_eq hs).1
    rw [e1] at HI
    rw [e2, e3]
    have hlen : t.length = f.length + 1 + s.length := by rw [ht]; simp; omega
    have hE1 := Lib.hid (show (⟨t.toArray⟩ : ByteArray).extract 0 f.length = ⟨f.toArray⟩ by rw [ba_extract, ht]; simp)
    have hE2 := Lib.hid (show (⟨t.toArray⟩ : ByteArray).extract (f.length + 1) t.length = ⟨s.toArray⟩ by rw [ba_extract, ht, show f ++ 46 :: s = (f ++ [46]) ++ s by simp, List.drop_left' (by simp), List.take_of_length_le (by simp; omega)])
    have HSZ := Lib.hid hsz
    have HLEN := Lib.hid hlen
    have c2 : (f.length : Int) ≤ t.length := by omega
    have c4 : (f.length : Int) + 1 ≤ t.length := by omega
    clear hs e1 e2 e3 ht hlen
    go_enter Try.func88, Try.ntmps88
    go_wp2_with (go_at_call 97; refine HI.out.mono ?_; rintro e w' ⟨rfl, rfl⟩)
    go_region
    all_goals
      go_wp2
      go_ret3
      exact ⟨by rw [hE1.out, hE2.out]; rfl, (Below.refl _ _).drew⟩
/-- what is behind a token's head -/
def behind (t : List UInt8) : List UInt8 := if t.take 3 = AuthP.head then t.drop 3 else t
set_option maxRecDepth 100000 in
set_option maxHeartbeats 1000000 in
theorem has_prefix (t : List UInt8) (w : World) (hm : t.length ≤ 35184372088832) :
    Calls Try.prog 96 #[.string ⟨t.toArray⟩, .string ⟨#[118, 49, 46]⟩] w fun e w' => e = .returned (.bool (decide (t.take 3 = AuthP.head))) ∧ w = w' := by
  have hsz : (⟨t.toArray⟩ : ByteArray).size = t.length := by show t.toArray.size = _; simp
  have h1 : (⟨#[118, 49, 46]⟩ : ByteArray).size = 3 := rfl
  by_cases h3 : 3 ≤ t.length
  · have HE := Lib.hid (show (⟨t.toArray⟩ : ByteArray).extract 0 3 = ⟨(t.take 3).toArray⟩ by rw [ba_extract]; simp)
    have i3 : (3 : Int) ≤ (t.length : Int) := by omega
    go_enter Try.func96, Try.ntmps96
    go_wp2_with fail
    go_ret
    refine ⟨?_, rfl⟩
    show Ending.returned (.bool (((⟨t.toArray⟩ : ByteArray).extract 0 3).toList == [118, 49, 46])) = _
    rw [HE.out]
    congr 2
    rw [Bool.eq_iff_iff]
    simp [go_sem, AuthP.head]
    exact ⟨fun h => decide_eq_true h, fun h => of_decide_eq_true h⟩
  · have i3 : ¬ (3 : Int) ≤ (t.length : Int) := by omega
    have hf : ¬ t.take 3 = AuthP.head := fun e => by
      have := congrArg List.length e
      simp [AuthP.head] at this
      omega
    have HF := Lib.hid hf
    clear hf
    go_enter Try.func96, Try.ntmps96
    go_wp2_with fail
    go_ret
    exact ⟨by rw [decide_eq_false HF.out]; rfl, rfl⟩
set_option maxRecDepth 100000 in
set_option maxHeartbeats 1000000 in
theorem cut_prefix (t : List UInt8) (w : World) (hm : t.length ≤ 35184372088832) :
    Calls Try.prog 68 #[.string ⟨t.toArray⟩, .string ⟨#[118, 49, 46]⟩] w fun e w' => e = .returned (.tuple #[.string ⟨(behind t).toArray⟩, .bool (decide (t.take 3 = AuthP.head))]) ∧ w = w' := by
  have hsz : (⟨t.toArray⟩ : ByteArray).size = t.length := by show t.toArray.size = _; simp
  have h1 : (⟨#[118, 49, 46]⟩ : ByteArray).size = 3 := rfl
  have HP := Lib.hid (has_prefix t w hm)
  suffices hlite : Calls Try.prog 87 #[.string ⟨t.toArray⟩, .string ⟨#[118, 49, 46]⟩] w fun e w' => e = .returned (.tuple #[.string ⟨(behind t).toArray⟩, .bool (decide (t.take 3 = AuthP.head))]) ∧ w = w' by
    have HL := Lib.hid hlite
    clear hlite hsz h1 HP
    go_enter Try.func68, Try.ntmps68
    go_wp2_with (go_at_call 87; refine HL.out.mono ?_; rintro e w' ⟨rfl, rfl⟩)
    go_ret2
    exact ⟨rfl, rfl⟩
  by_cases hp : t.take 3 = AuthP.head
  · have e1 : behind t = t.drop 3 := by unfold behind; rw [if_pos hp]
    have h3 : 3 ≤ t.length := by
      have := congrArg List.length hp
      simp [AuthP.head] at this
      omega
    have HE := Lib.hid (show (⟨t.toArray⟩ : ByteArray).extract 3 t.length = ⟨(t.drop 3).toArray⟩ by rw [ba_extract, List.take_of_length_le (by simp)])
    rw [decide_eq_true hp] at HP ⊢
    rw [e1]
    have i3 : (3 : Int) ≤ (t.length : Int) := by omega
    clear hp e1
    go_enter Try.func87, Try.ntmps87
    go_wp2_with (go_at_call 96; refine HP.out.mono ?_; rintro e w' ⟨rfl, rfl⟩)
    go_ret2
    exact ⟨by rw [← HE.out]; rfl, rfl⟩
  · have e1 : behind t = t := by unfold behind; rw [if_neg hp]
    rw [decide_eq_false hp] at HP ⊢
    rw [e1]
    clear hp e1
    go_enter Try.func87, Try.ntmps87
    go_wp2_with (go_at_call 96; refine HP.out.mono ?_; rintro e w' ⟨rfl, rfl⟩)
    go_ret2
    exact ⟨rfl, rfl⟩
end Go.Proofs.Ytohgkadbajmphaa
namespace Go.Proofs.Ytohgkadbajmphaa
open Go.RowKit
set_option linter.unusedVariables false
theorem IsB.fresh (w : World) : IsB w.heap.size [] w.heap.size (w.alloc (.cells #[.pointer none, .slice none 0 0] 128)) := Lib.fresh_isBuilder _ _ w
set_option maxRecDepth 100000 in
set_option maxHeartbeats 1000000 in
theorem auth_hex (A : Option Addr) (n c B : Nat) (l : List UInt8) (w : World) (h : Sl w B A n c l) (hB : B ≤ w.heap.size) (h0 : l ≠ []) (hm : n ≤ 35184372088832) :
    Calls Try.prog 51 #[.slice A n c] w fun e w' => e = .returned (.string ⟨(ShaP.hex l).toArray⟩) ∧ Below w.heap.size w w' := by
  obtain ⟨hn, hnc, hcm, hr⟩ := id h
  subst hn
  unfold maxLen at hcm
  have hB0 := IsB.fresh w
  have HB0 := Lib.hid hB0
  have hlt0 : 0 < l.length := List.length_pos_iff.2 h0
  have H0 := Lib.hid h0
  obtain ⟨ad, hA⟩ : ∃ ad, A = some ad := (hr.at_ 0 (by simpa using hlt0)).elim fun ad h => ⟨ad, h.1⟩
  subst hA
  clear hB0 h0 hlt0
  go_enter Try.func51, Try.ntmps51
  go_wp2_with fail
  have hBa : Below w.heap.size w (w.alloc (.cells #[.pointer none, .slice none 0 0] 128)) := (Below.refl _ _).alloc (Nat.le_refl _) _
  go_loopw [8] (fun i wr => ∃ k : Nat, k ≤ l.length ∧ i = .int .i64 (k : Int) ∧ IsB w.heap.size (ShaP.hex (l.take k)) w.heap.size wr ∧ Below w.heap.size w wr) (fun i _ => l.length - (intOf i).toNat)
  case atStart => exact ⟨0, Nat.zero_le _, rfl, HB0.out, hBa⟩
  case round =>
    clear hBa HB0
    obtain ⟨k, hk, rfl, hI, hBr⟩ := hrel
    have hsz := hBr.size
    by_cases hlt : k < l.length
    · obtain ⟨x, hx⟩ : ∃ x, x = l[k] := ⟨_, rfl⟩
      have q1 : wr.cell? (ad.add k) = some (b8 x) := by
        obtain ⟨ad', e, _, hc⟩ := (hr.below (hBr.mono hB)).at_ k (by simpa using hlt)
        injection e with e
        subst e
        rw [hc, hx]
        simp
      have HT := Lib.hid (show ShaP.hex (l.take k) ++ [ShaP.hexd (x.toNat / 16)] ++ [ShaP.hexd (x.toNat % 16)] = ShaP.hex (l.take (k + 1)) by rw [List.take_succ_eq_append_getElem hlt, ShaP.hex_snoc, hx, List.append_assoc]; rfl)
      have hx8 := x.toNat_lt
      obtain ⟨p, hp⟩ : ∃ p, p = x.toNat / 16 := ⟨_, rfl⟩
      obtain ⟨q, hq⟩ : ∃ q, q = x.toNat % 16 := ⟨_, rfl⟩
      have g1 : bits .and .u8 (x.toNat : Int) 15 = (q : Int) := by rw [u8_and_15, hq]
      have g2 : (x.toNat : Int) / 16 = (p : Int) := by omega
      have g3 := fun W => hex_idx W p (by omega)
      have g4 := fun W => hex_idx W q (by omega)
      rw [← hp, ← hq] at HT
      have hIk : (k : Int) < (l.length : Int) := by omega
      have HI := Lib.hid hI
      have hlen : (ShaP.hex (l.take k)).length ≤ 70368744177664 := by rw [ShaP.hex_len, List.length_take]; omega
      have HC1 := Lib.hid (writeByte w.heap.size w.heap.size (ShaP.hex (l.take k)) (ShaP.hexd p) wr HI.out (by omega) hsz)
      have HLEN := Lib.hid hlen
      have HBr := Lib.hid hBr
      clear hx hp hq hI hlen hBr
      go_upto_region 6 with (go_at_call 66; refine HC1.out.mono ?_; rintro e w2 ⟨rfl, hI2, hB2⟩)
      have HI2 := Lib.hid hI2
      have HB2 := Lib.hid hB2
      have HC2 := Lib.hid (writeByte w.heap.size w.heap.size (ShaP.hex (l.take k) ++ [ShaP.hexd p]) (ShaP.hexd q) w2 HI2.out (by have := HLEN.out; simp; omega) (Nat.le_trans hsz HB2.out.size))
      clear hI2 hB2 HC1
      go_wp2_with (go_at_call 66; refine HC2.out.mono ?_; rintro e w3 ⟨rfl, hI3, hB3⟩)
      go_roundw
      case rel => exact ⟨k + 1, by omega, by go_num, by rw [← HT.out]; exact hI3, HBr.out.trans (HB2.out.trans hB3)⟩
      case measure => simp [intOf]; omega
    · obtain rfl : k = l.length := by omega
      rw [List.take_length] at hI
      have hne : ShaP.hex l ≠ [] := fun e => by
        have h1 := congrArg List.length e
        rw [ShaP.hex_len] at h1
        exact H0.out (List.eq_nil_of_length_eq_zero (by have h2 : 2 * l.length = 0 := h1; omega))
      have HC := Lib.hid (builder_string w.heap.size w.heap.size (ShaP.hex l) wr hI hne)
      clear hI hne
      go_wp2_with (go_at_call 67; refine HC.out.mono ?_; rintro e w2 ⟨rfl, hB2⟩)
      go_ret
      exact ⟨rfl, hBr.trans hB2⟩
theorem index_digits : ∀ c : Fin 256, Lib.indexByte [48, 49, 50, 51, 52, 53, 54, 55, 56, 57, 97, 98, 99, 100, 101, 102] (UInt8.ofNat c.val) = if ShaP.isd (UInt8.ofNat c.val) then ((ShaP.dig (UInt8.ofNat c.val)).toNat : Int) else -1 := by decide +kernel
theorem index_digit (c : UInt8) : Lib.indexByte [48, 49, 50, 51, 52, 53, 54, 55, 56, 57, 97, 98, 99, 100, 101, 102] c = if ShaP.isd c then ((ShaP.dig c).toNat : Int) else -1 := by
  have h := index_digits ⟨c.toNat, c.toNat_lt⟩
  rwa [UInt8.ofNat_toNat] at h
theorem digits_idx (c : UInt8) (w : World) : Calls Try.prog 89 #[.string ⟨#[48, 49, 50, 51, 52, 53, 54, 55, 56, 57, 97, 98, 99, 100, 101, 102]⟩, b8 c] w fun e w' => e = .returned (.int .i64 (if ShaP.isd c then ((ShaP.dig c).toNat : Int) else -1)) ∧ w = w' := by
  have h := strings_indexByte ⟨#[48, 49, 50, 51, 52, 53, 54, 55, 56, 57, 97, 98, 99, 100, 101, 102]⟩ (c.toNat : Int) w
  rw [show ((c.toNat : Int)).toNat.toUInt8 = c from by simp] at h
  rw [← index_digit]
  exact h
/-- how an unhexing ends -/
def Unhexed (w : World) (s : List UInt8) (e : Ending) (w' : World) : Prop :=
  if s.length % 2 = 0 ∧ s.all ShaP.isd = true then ∃ A n c, e = .returned (.tuple #[.slice A n c, .bool true]) ∧ OwnB w' w.heap.size A n c (ShaP.unhex s) ∧ Below w.heap.size w w'
  else e = .returned (.tuple #[.slice none 0 0, .bool false]) ∧ Below w.heap.size w w'
theorem unhex_take (s : List UInt8) (k : Nat) (x y : UInt8) (hx : s[2 * k]? = some x) (hy : s[2 * k + 1]? = some y) : ShaP.unhex (s.take (2 * (k + 1))) = ShaP.unhex (s.take (2 * k)) ++ [UInt8.ofNat (16 * (ShaP.dig x).toNat + (ShaP.dig y).toNat)] := by
  induction k generalizing s with
  | zero =>
    match s, hx, hy with
    | a :: b :: r, hx, hy =>
      simp at hx hy
      subst hx hy
      simp [ShaP.unhex]
  | succ k ih =>
    match s, hx, hy with
    | [], hx, hy => simp at hx
    | [a], hx, hy => simp at hx
    | a :: b :: r, hx, hy =>
      have e1 : (a :: b :: r)[2 * (k + 1)]? = r[2 * k]? := by rw [show 2 * (k + 1) = 2 * k + 1 + 1 by omega]; simp
      have e2 : (a :: b :: r)[2 * (k + 1) + 1]? = r[2 * k + 1]? := by rw [show 2 * (k + 1) + 1 = 2 * k + 1 + 1 + 1 by omega]; simp
      rw [e1] at hx
      rw [e2] at hy
      have := ih r hx hy
      rw [show 2 * (k + 1 + 1) = 2 * (k + 1) + 1 + 1 by omega, show 2 * (k + 1) = 2 * k + 1 + 1 by omega] at *
      simp only [List.take_succ_cons, ShaP.unhex]
      rw [this]
      rfl
theorem all_two (s : List UInt8) (k : Nat) (x y : UInt8) (hx : s[2 * k]? = some x) (hy : s[2 * k + 1]? = some y) : (s.take (2 * (k + 1))).all ShaP.isd = ((s.take (2 * k)).all ShaP.isd && (ShaP.isd x && ShaP.isd y)) := by
  rw [show 2 * (k + 1) = 2 * k + 1 + 1 by omega, List.take_add_one, List.take_add_one, hx, hy]
  simp [List.all_append]
set_option maxRecDepth 100000 in
set_option maxHeartbeats 2000000 in
theorem auth_unhex (s : List UInt8) (w : World) (hm : s.length ≤ 35184372088832) :
    Calls Try.prog 70 #[.string ⟨s.toArray⟩] w (Unhexed w s) := by
  have hsz : (⟨s.toArray⟩ : ByteArray).size = s.length := by show s.toArray.size = _; simp
  by_cases hev : s.length % 2 = 0
  · have HSZ := Lib.hid hsz
    have hI : (s.length : Int) % 2 = 0 := by omega
    go_enter Try.func70, Try.ntmps70
    go_wp2_with fail
    clear hI
    go_loopw [4, 5] (fun f i wr => ∃ (j : Nat) (A : Option Addr) (c : Nat), 2 * j ≤ s.length ∧ i = .int .i64 (2 * (j : Int)) ∧ f = .slice A j c ∧ (s.take (2 * j)).all ShaP.isd = true ∧ OwnB wr w.heap.size A j c (ShaP.unhex (s.take (2 * j))) ∧ Below w.heap.size w wr) (fun _ i _ => s.length - (intOf i).toNat)
    case atStart => exact ⟨0, none, 0, by omega, rfl, rfl, rfl, Own.nil _ _ _ _, Below.refl _ _⟩
    case round =>
      obtain ⟨j, A, c, hj, rfl, rfl, hall, hO, hBr⟩ := hrel
      have HALL := Lib.hid hall
      have HO := Lib.hid hO
      have HBr := Lib.hid hBr
      clear hall hO hBr
      by_cases hlt : 2 * j < s.length
      · obtain ⟨x, hx⟩ : ∃ x, s[2 * j]? = some x := ⟨_, List.getElem?_eq_getElem hlt⟩
        obtain ⟨y, hy⟩ : ∃ y, s[2 * j + 1]? = some y := ⟨_, List.getElem?_eq_getElem (by omega)⟩
        have g1 : ∀ W : World, (Instr.index 9 (.string ⟨s.toArray⟩) (.int .i64 (2 * (j : Int)))).run Try.prog W = .ok (b8 x) W := run_index_text s (2 * j) x hx
        have g2 : ∀ W : World, (Instr.index 9 (.string ⟨s.toArray⟩) (.int .i64 (2 * (j : Int) + 1))).run Try.prog W = .ok (b8 y) W := run_index_text s (2 * j + 1) y hy
        have G := Lib.hid (And.intro g1 g2)
        have HX := Lib.hid hx
        have HY := Lib.hid hy
        have hIj : 2 * (j : Int) < (s.length : Int) := by omega
        obtain ⟨P, hP⟩ : ∃ P : Int, P = if ShaP.isd x then ((ShaP.dig x).toNat : Int) else -1 := ⟨_, rfl⟩
        obtain ⟨Q, hQ⟩ : ∃ Q : Int, Q = if ShaP.isd y then ((ShaP.dig y).toNat : Int) else -1 := ⟨_, rfl⟩
        have hC1 := fun W => digits_idx x W
        have hC2 := fun W => digits_idx y W
        rw [← hP] at hC1
        rw [← hQ] at hC2
        have HC1 := Lib.hid hC1
        have HC2 := Lib.hid hC2
        have HP := Lib.hid hP
        have HQ := Lib.hid hQ
        clear hx hy g1 g2 hC1 hC2 hP hQ
        go_upto_region 7 with fail
        have hqq := G.out
        refine wp_region_x [] (by kernel_rfl) (by kernel_rfl) (by kernel_rfl) ?_
        simp only [blank, List.foldl_nil]
        repeat (first
          | (refine wpX_value (v := ?_) rfl (by intros; simp) rfl rfl (fun x => ?_) ?_; rotate_left; (focus (simp [go_sem, hqq]; (try go_ints); first | done | (with_reducible rfl))); (simp only [Act.put, List.setIfInBounds_toArray, List.set_cons_succ, List.set_cons_zero]))
          | (refine wpX_call (o := ⟨some 21, _, _, _, _, _⟩) (.int .i64 P) _ _ rfl (by intros; simp) rfl rfl (fun _ => ?_) (fun w' _ => (HC1.out w').mono fun _ _ h => ⟨h.1, h.2 ▸ Grew.refl _⟩) ?_; (focus (simp [go_sem]; done)); (simp only [Act.put, List.setIfInBounds_toArray, List.set_cons_succ, List.set_cons_zero]))
          | (refine wpX_call (o := ⟨some 26, _, _, _, _, _⟩) (.int .i64 Q) _ _ rfl (by intros; simp) rfl rfl (fun _ => ?_) (fun w' _ => (HC2.out w').mono fun _ _ h => ⟨h.1, h.2 ▸ Grew.refl _⟩) ?_; (focus (simp [go_sem]; done)); (simp only [Act.put, List.setIfInBounds_toArray, List.set_cons_succ, List.set_cons_zero])))
        (refine wpX_nil ?_; intro xb wx hxg xl; obtain ⟨xf, xe⟩ := LikeAll.end_ xl; clear xl; subst xe; simp only [fill, List.foldl_nil, Act.put])
        clear hqq
        have HOx := Lib.hid (HO.out.below_all hxg)
        have HBx := Lib.hid (HBr.out.trans (hxg.mono HBr.out.size))
        have HAT := Lib.hid (all_two s j x y HX.out HY.out)
        clear hxg HO HBr
        by_cases hgx : ShaP.isd x = true
        · have eP : P = ((ShaP.dig x).toNat : Int) := by rw [HP.out, if_pos hgx]
          by_cases hgy : ShaP.isd y = true
          · have eQ : Q = ((ShaP.dig y).toNat : Int) := by rw [HQ.out, if_pos hgy]
            have dx := ShaP.dig_good x hgx
            have dy := ShaP.dig_good y hgy
            obtain ⟨z, hz⟩ : ∃ z, z = UInt8.ofNat (16 * (ShaP.dig x).toNat + (ShaP.dig y).toNat) := ⟨_, rfl⟩
            have HUT := Lib.hid (unhex_take s j x y HX.out HY.out)
            rw [← hz] at HUT
            have hzv : ((16 : Int) * P + Q) % 256 = (z.toNat : Int) := by
              rw [hz, UInt8.toNat_ofNat', eP, eQ]; omega
            have HA2 := Lib.hid (show (s.take (2 * (j + 1))).all ShaP.isd = true by rw [HAT.out, HALL.out, hgx, hgy]; rfl)
            have p0 : 0 ≤ P := by omega
            have p1 : P ≤ 15 := by omega
            have q0 : 0 ≤ Q := by omega
            have q1 : Q ≤ 15 := by omega
            have HR : Hid (∀ W : World, Row (W.alloc (.cells #[.int .u8 (16 * P + Q)] 5)) (W.heap.size + 1) (some ⟨W.heap.size, 0, none⟩) [b8 z]) := Lib.hid fun W => Row.new _ _ _ _ _ _ rfl (by omega) _ (by unfold b8; rw [← hzv, Int.emod_eq_of_lt (by omega) (by omega)])
            have hBn := HBx.out.alloc HBx.out.size (.cells #[.int .u8 (16 * P + Q)] 5)
            have HOn := Lib.hid (HOx.out.alloc (.cells #[.int .u8 (16 * P + Q)] 5))
            clear eP eQ hz hzv hgx hgy
            go_wp2_with (at_builtin; refine wpList_appn1 rfl (.tmp 33) (.tmp 39) 31 5 (.int .u8 0) 1 rfl Try.underlying31 info_u8 rfl (by omega) w.heap.size _ _ _ _ rfl HOn.out 1 [b8 z] (Src.slice rfl (HR.out wx)) (one_b8s [z]) (j + 1) rfl _ rfl (by omega) hBn.size ?_; intro A9 c9 w9 hO9 hg9 hB9 hb9)
            go_roundw
            case rel => exact ⟨j + 1, A9, c9, by omega, by go_num, rfl, HA2.out, by rw [HUT.out]; unfold OwnB; rw [List.map_append]; exact hO9, hBn.trans hB9⟩
            case measure => simp [intOf]; omega
          · have hgy : ShaP.isd y = false := by simpa using hgy
            have eQ : Q = -1 := by rw [HQ.out, hgy]; rfl
            have hnot : ¬ (s.length % 2 = 0 ∧ s.all ShaP.isd = true) := fun h => ShaP.not_all s (2 * j + 1) y HY.out hgy h.2
            have HN := Lib.hid hnot
            have p0 : ¬ P < 0 := by omega
            have q0 : Q < 0 := by omega
            clear hnot eP eQ hgx hgy
            go_wp2_with fail
            go_ret2
            unfold Unhexed
            rw [if_neg HN.out]
            exact ⟨rfl, HBx.out⟩
        · have hgx : ShaP.isd x = false := by simpa using hgx
          have eP : P = -1 := by rw [HP.out, hgx]; rfl
          have hnot : ¬ (s.length % 2 = 0 ∧ s.all ShaP.isd = true) := fun h => ShaP.not_all s (2 * j) x HX.out hgx h.2
          have HN := Lib.hid hnot
          have p0 : P < 0 := by omega
          clear hnot eP hgx
          go_wp2_with fail
          go_ret2
          unfold Unhexed
          rw [if_neg HN.out]
          exact ⟨rfl, HBx.out⟩
      · have e2 : 2 * j = s.length := by omega
        have hIj : ¬ 2 * (j : Int) < (s.length : Int) := by omega
        have hO := HO.out
        have hall := HALL.out
        rw [e2, List.take_length] at hO hall
        have HU : Hid (Unhexed w s (.returned (.tuple #[.slice A j c, .bool true])) wr) := Lib.hid (by
          unfold Unhexed
          rw [if_pos ⟨hev, hall⟩]
          exact ⟨A, j, c, rfl, hO, HBr.out⟩)
        clear hO hall e2
        go_wp2_with fail
        go_ret2
        exact HU.out
  · have hI : ¬ (s.length : Int) % 2 = 0 := by omega
    go_enter Try.func70, Try.ntmps70
    go_wp2_with fail
    go_ret2
    unfold Unhexed
    rw [if_neg (fun h => hev h.1)]
    exact ⟨rfl, Below.refl _ _⟩
end Go.Proofs.Ytohgkadbajmphaa
