/- The walks of auth.Read and of a keeper's Issue. -/
import Derived.Test.YtohgkadbajmphaaAuthB
import Derived.Test.YtohgkadbajmphaaShaMac
import Derived.Test.YtohgkadbajmphaaShaLib
import Derived.Test.YtohgkadbajmphaaRefMac
import Derived.Test.YtohgkadbajmphaaRefHex
namespace Go.Proofs.Ytohgkadbajmphaa
open Go.RowKit
set_option linter.unusedVariables false
def readC (t : List UInt8) : AuthP.Cl := match AuthP.parse t with | none => AuthP.none0 | some (c, _, _) => c
def readE (t : List UInt8) : Int := match AuthP.parse t with | none => 8 | some _ => 0
def readB (t : List UInt8) : List UInt8 := match AuthP.parse t with | none => [] | some (_, b, _) => b
def readS (t : List UInt8) : List UInt8 := match AuthP.parse t with | none => [] | some (_, _, s) => s
theorem readA_cases {w w' : World} {t : List UInt8} {e : Ending} (h : ReadA w t e w') : ∃ A n c A' n' c', e = .returned (.tuple #[.agg (clv (readC t)).toArray, .slice A n c, .slice A' n' c', .int .i64 (readE t)]) ∧ OwnB w' w.heap.size A n c (readB t) ∧ OwnB w' w.heap.size A' n' c' (ShaP.unhex (readS t)) ∧ Below w.heap.size w w' := by
  unfold ReadA at h
  unfold readC readE readB readS
  rcases hp : AuthP.parse t with _ | ⟨c, b, s⟩
  · rw [hp] at h
    exact ⟨none, 0, 0, none, 0, 0, h.1, Own.nil _ _ _ _, Own.nil _ _ _ _, h.2⟩
  · rw [hp] at h
    exact h
theorem parse_len {t : List UInt8} : (readB t).length ≤ t.length ∧ (readS t).length ≤ 64 := by
  unfold readB readS
  rw [parse_eq]
  split
  · simp
  · rename_i c b s hp
    split at hp
    · rename_i hc
      rcases hcl : AuthP.claim (ShaP.unhex (dotA (behind t))) with _ | c'
      · rw [hcl] at hp; cases hp
      · rw [hcl] at hp
        simp only [Option.map_some, Option.some.injEq, Prod.mk.injEq] at hp
        obtain ⟨_, rfl, rfl⟩ := hp
        simp only [Bool.and_eq_true, decide_eq_true_eq] at hc
        have h64 := uval_len _ hc.2 hc.1.2
        refine ⟨?_, by omega⟩
        rw [ShaP.unhex_len]
        have h1 : (behind t).length ≤ t.length := by unfold behind; split <;> simp
        have h2 : (dotA (behind t)).length ≤ (behind t).length := by
          unfold dotA
          rcases hs : AuthP.split (behind t) with _ | ⟨f, s⟩
          · exact Nat.le_refl _
          · have h2 := congrArg List.length (AuthP.split_eq hs).1
            simp at h2
            simp only
            omega
        omega
    · cases hp
theorem clv_len (c : AuthP.Cl) : (clv c).length = 4 := rfl
def czeros : List Value := [.int .i64 0, .int .u64 0, .int .u64 0, .int .i64 0]
theorem cz_made (W : World) : ArrV (W.alloc (.cells #[.int .i64 0, .int .u64 0, .int .u64 0, .int .i64 0] 50)) W.heap.size czeros := ArrV.made W _ _
/-- 'c := value' of a claim: the world behind it -/
def boxedC (W : World) (C : List Value) : World := (W.alloc (.cells #[.int .i64 0, .int .u64 0, .int .u64 0, .int .i64 0] 50)).setCells W.heap.size 0 C
theorem boxedC_grew (W : World) (C : List Value) : Grew W (boxedC W C) := by
  have hG : W.grownBy (boxedC W C) none := grown_fresh (grown_grew (grown_refl W none) (grew_alloc W _)) (Nat.le_refl _) (grown_setCells W.heap.size C 0 _)
  exact ⟨hG.os, hG.tape, hG.output, hG.size, fun k hk => hG.block k hk (by simp)⟩
theorem boxedC_store (W : World) (C : List Value) (hl : C.length = 4) (h1 : ∀ v ∈ C, v.oneCell' = true) :
    (W.alloc (.cells #[.int .i64 0, .int .u64 0, .int .u64 0, .int .i64 0] 50)).there W.heap.size 0 C.toArray.size ∧ (Try.prog.info? 50).map (·.size) = some C.toArray.size ∧ C.toArray.all (·.oneCell') = true ∧ ArrV (boxedC W C) W.heap.size C :=
  claim_there (cz_made W) rfl hl h1
set_option maxRecDepth 100000 in
set_option maxHeartbeats 1000000 in
theorem auth_Read (t : List UInt8) (w : World) (hm : t.length ≤ 17592186044416) :
    Calls Try.prog 31 #[.string ⟨t.toArray⟩] w fun e w' => e = .returned (.tuple #[.agg (clv (readC t)).toArray, .int .i64 (readE t)]) ∧ Below w.heap.size w w' := by
  have hA0 := cz_made w
  obtain ⟨w1, hw1⟩ : ∃ w1, w1 = w.alloc (.cells #[.int .i64 0, .int .u64 0, .int .u64 0, .int .i64 0] 50) := ⟨_, rfl⟩
  have HB1 := Lib.hid (show Below w.heap.size w w1 by rw [hw1]; exact (Below.refl _ _).alloc (Nat.le_refl _) _)
  rw [← hw1] at hA0
  have HA0 := Lib.hid hA0
  have HW1 := Lib.hid hw1
  have HR := Lib.hid (auth_read t w1 hm)
  obtain ⟨C, hC⟩ : ∃ C, C = clv (readC t) := ⟨_, rfl⟩
  obtain ⟨E, hE⟩ : ∃ E, E = readE t := ⟨_, rfl⟩
  have hCl : C.length = 4 := by rw [hC]; rfl
  have hC1 : ∀ v ∈ C, v.oneCell' = true := by rw [hC]; exact one_clv _
  have HC := Lib.hid (And.intro hCl hC1)
  rw [← hC, ← hE]
  have HCE := Lib.hid (And.intro hC hE)
  clear hA0 hw1 hCl hC1 hC hE
  go_enter Try.func31, Try.ntmps31
  go_upto_region 1 with fail
  rw [← HW1.out]
  go_wp2_with fail
  refine HR.out.mono ?_
  intro e w2 hA
  obtain ⟨A, n, c, A', n', c', he, hO, hO', hB2⟩ := readA_cases hA
  rw [← HCE.out.1, ← HCE.out.2] at he
  subst he
  have HST := Lib.hid (boxedC_store w2 C HC.out.1 HC.out.2)
  obtain ⟨w3, hw3⟩ : ∃ w3, w3 = boxedC w2 C := ⟨_, rfl⟩
  have hg3 : Grew w2 w3 := by rw [hw3]; exact boxedC_grew w2 C
  have HA3 := Lib.hid (show ArrV w3 w2.heap.size C by rw [hw3]; exact HST.out.2.2.2)
  have HR3 := Lib.hid ((HA0.out.grew hB2).grew hg3)
  have HB3 := Lib.hid (HB1.out.trans ((Grew.trans hB2 hg3).mono HB1.out.size))
  have HS3 := Lib.hid (claim_there HR3.out rfl HC.out.1 HC.out.2)
  have hld := claim_load HS3.out.2.2.2 HC.out.1
  have HLD : Hid (∀ W, W = w3.setCells w.heap.size 0 C → (loadVar 50 ⟨w.heap.size, 0, none⟩).run Try.prog W = .ok (.agg C.toArray) W) := Lib.hid fun W e => by rw [e]; exact hld
  have HB4 := Lib.hid (HB3.out.trans (below_grown (grown_setCells w.heap.size C 0 w3) HB3.out.size (fun g e => by injection e with e; omega)))
  have HW3 := Lib.hid hw3
  have HINF := Lib.hid (show (Try.prog.info? 50).map (·.size) = some C.length by rw [HC.out.1]; kernel_rfl)
  clear hA hO hO' hB2 hw3 hg3 hld
  go_wp2_with (first
    | (refine wpList_value (o := ⟨some 4, _, _, _, _, _⟩) (v := .pointer (some ⟨w2.heap.size, 0, none⟩)) (w' := w2.alloc (.cells #[.int .i64 0, .int .u64 0, .int .u64 0, .int .i64 0] 50)) rfl (by kernel_rfl) ?_)
    | (refine wpList_store_mid rfl 50 (.tmp 4) (.tmp 11) rfl w2.heap.size 0 C.toArray rfl rfl HST.out.1 HST.out.2.1 HST.out.2.2.1 ?_; rw [show (w2.alloc (.cells #[.int .i64 0, .int .u64 0, .int .u64 0, .int .i64 0] 50)).setCells w2.heap.size 0 C.toArray.toList = w3 from HW3.out.symm])
    | (refine wpList_load_mid rfl 50 (.tmp 4) rfl w2.heap.size 0 rfl C _ HA3.out.range Try.underlying50 rfl HINF.out ?_)
    | (refine wpList_store_mid rfl 50 (.tmp 2) (.tmp 15) rfl w.heap.size 0 C.toArray rfl rfl HS3.out.1 HS3.out.2.1 HS3.out.2.2.1 ?_))
  have hres2 := HLD.out (w3.setCells w.heap.size 0 C.toArray.toList) (by simp)
  refine bodyPost_ret (v := .tuple #[.agg C.toArray, .int .i64 E]) (by simp [results, Try.results31, asAddr, hres2]) rfl ⟨rfl, by simpa using HB4.out⟩
end Go.Proofs.Ytohgkadbajmphaa
namespace Go.Proofs.Ytohgkadbajmphaa
open Go.RowKit
set_option linter.unusedVariables false
set_option maxRecDepth 100000 in
set_option maxHeartbeats 1000000 in
theorem issue_no (g : Nat) (dev : Int) (epoch : Nat) (now lasts : Int) (w : World) (h : ¬ (0 ≤ dev ∧ dev < 16 ∧ epoch ≤ 1099511627776 ∧ 0 ≤ now ∧ now ≤ 1152921504606846976 ∧ 1 ≤ lasts ∧ lasts ≤ 1152921504606846976)) :
    Calls Try.prog 30 #[.pointer (some ⟨g, 0, none⟩), .int .i64 dev, .int .u64 (epoch : Int), .int .i64 now, .int .i64 lasts] w fun e w' => e = .returned (.tuple #[.string ⟨#[]⟩, .int .i64 1]) ∧ w = w' := by
  by_cases h1 : dev < 0
  · clear h
    go_enter Try.func30, Try.ntmps30
    go_wp2_with fail
    go_ret2
    exact ⟨rfl, rfl⟩
  by_cases h2 : 16 ≤ dev
  · clear h
    go_enter Try.func30, Try.ntmps30
    go_wp2_with fail
    go_ret2
    exact ⟨rfl, rfl⟩
  by_cases h3 : (1099511627776 : Int) < (epoch : Int)
  · clear h
    go_enter Try.func30, Try.ntmps30
    go_wp2_with fail
    go_ret2
    exact ⟨rfl, rfl⟩
  by_cases h4 : now < 0
  · clear h
    go_enter Try.func30, Try.ntmps30
    go_wp2_with fail
    go_ret2
    exact ⟨rfl, rfl⟩
  by_cases h5 : 1152921504606846976 < now
  · clear h
    go_enter Try.func30, Try.ntmps30
    go_wp2_with fail
    go_ret2
    exact ⟨rfl, rfl⟩
  by_cases h6 : lasts < 1
  · clear h
    go_enter Try.func30, Try.ntmps30
    go_wp2_with fail
    go_ret2
    exact ⟨rfl, rfl⟩
  have h7 : 1152921504606846976 < lasts := by omega
  clear h
  go_enter Try.func30, Try.ntmps30
  go_wp2_with fail
  go_ret2
  exact ⟨rfl, rfl⟩
theorem body_len (c : AuthP.Cl) : (AuthP.body c).length ≤ 40 := by
  unfold AuthP.body
  have h1 := BinP.enc_len c.dev
  have h2 := BinP.enc_len c.epoch
  have h3 := BinP.enc_len c.num
  have h4 := BinP.enc_len c.over
  simp
  omega
theorem body_ne (c : AuthP.Cl) : AuthP.body c ≠ [] := by
  intro h
  have h1 := BinP.encF_pos 9 c.dev
  have h2 := congrArg List.length h
  unfold AuthP.body BinP.enc at h2
  simp at h2
  have h3 := h2.1
  rw [h3] at h1
  simp at h1
theorem tok_string (x y : List UInt8) : (((⟨#[118, 49, 46]⟩ : ByteArray) ++ ⟨x.toArray⟩) ++ (⟨#[46]⟩ : ByteArray)) ++ ⟨y.toArray⟩ = ⟨(AuthP.head ++ (x ++ ([46] ++ y))).toArray⟩ := by
  rw [show (⟨#[118, 49, 46]⟩ : ByteArray) = ⟨(AuthP.head).toArray⟩ from rfl, show (⟨#[46]⟩ : ByteArray) = ⟨[(46 : UInt8)].toArray⟩ from rfl, ba_append, ba_append, ba_append]
  simp
set_option maxRecDepth 100000 in
set_option maxHeartbeats 1000000 in
theorem issue_yes (base top g : Nat) (key : List UInt8) (issued asked : Nat) (rev : Nat → Bool) (k : Nat) (dev : Int) (epoch : Nat) (now lasts : Int) (w : World) (hK : Keep w base top g key issued asked rev k) (hi : issued < 1000000) (hkey : key.length ≤ 1000000)
    (h : 0 ≤ dev ∧ dev < 16 ∧ epoch ≤ 1099511627776 ∧ 0 ≤ now ∧ now ≤ 1152921504606846976 ∧ 1 ≤ lasts ∧ lasts ≤ 1152921504606846976) (c : AuthP.Cl) (hc : c = ⟨dev.toNat, epoch, issued + 1, (now + lasts).toNat⟩) :
    Calls Try.prog 30 #[.pointer (some ⟨g, 0, none⟩), .int .i64 dev, .int .u64 (epoch : Int), .int .i64 now, .int .i64 lasts] w fun e w' => e = .returned (.tuple #[.string ⟨(AuthP.tok key c).toArray⟩, .int .i64 0]) ∧ Keep w' base top g key (issued + 1) asked rev k ∧ Out base top w w' := by
  obtain ⟨h1, h2, h3, h4, h5, h6, h7⟩ := h
  have e64 := two64_eq
  have hgood : AuthP.good c := by
    subst hc
    refine ⟨?_, ?_, ?_, ?_, ?_, ?_⟩ <;> simp only [] <;> omega
  obtain ⟨A, n, cp, b, K⟩ := hK.knows
  have hbase := hK.lt
  have HAdd := Lib.hid (u64_add g 1 issued w K.c1 (K.f 1) (by omega))
  have HK2 := Lib.hid (hK.setIssued (issued + 1))
  have hBody : ∀ W, Calls Try.prog 49 #[.agg #[.int .i64 dev, .int .u64 (epoch : Int), .int .u64 ((issued + 1 : Nat) : Int), .int .i64 (now + lasts)]] W (GivesB W (AuthP.body c)) := fun W => by
    have := auth_body c W hgood
    rw [hc] at this ⊢
    simp only [Int.toNat_of_nonneg h1, Int.toNat_of_nonneg (show 0 ≤ now + lasts by omega)] at this
    exact this
  have HBody := Lib.hid hBody
  obtain ⟨b8y, hby⟩ : ∃ x, x = AuthP.body c := ⟨_, rfl⟩
  have hbl : b8y.length ≤ 40 := by rw [hby]; exact body_len c
  have hbn := Lib.hid (show b8y ≠ [] by rw [hby]; exact body_ne c)
  rw [← hby] at HBody
  obtain ⟨M, hM⟩ : ∃ M, M = ShaP.mac key b8y := ⟨_, rfl⟩
  have hMl : M.length = 32 := by rw [hM]; exact ShaP.mac_len _ _
  have HTok := Lib.hid (show AuthP.tok key c = AuthP.head ++ (ShaP.hex b8y ++ ([46] ++ ShaP.hex M)) by unfold AuthP.tok; rw [hM, hby])
  obtain ⟨C, hC⟩ : ∃ C, C = M.map b8 := ⟨_, rfl⟩
  have HM := Lib.hid hM
  have HMl := Lib.hid hMl
  have HC := Lib.hid hC
  obtain ⟨NI, hNI⟩ : ∃ NI : Int, NI = ((issued + 1 : Nat) : Int) := ⟨_, rfl⟩
  rw [← hNI] at HAdd HBody HK2
  have HH := Lib.hid (And.intro hbase hkey)
  clear K hK hgood hBody hby hM hMl hC hNI hc e64 hbase hkey
  go_enter Try.func30, Try.ntmps30
  go_upto_region 4 with (first
    | (go_at_call 50; refine HAdd.out.mono ?_; rintro e w2 ⟨rfl, hw2⟩; have HW2 := Lib.hid hw2; clear hw2)
    | (go_at_call 49; refine (HBody.out _).mono ?_; rintro e w3 ⟨A3, n3, c3, rfl, hO3, hB3⟩))
  have hK2 : Keep w2 base top g key (issued + 1) asked rev k := by rw [HW2.out]; exact HK2.out
  have hb2 : Out base top w w2 := by rw [HW2.out]; exact (Out.refl base top w).row (grown_cell w ⟨g, 1, none⟩ _) (.inl ⟨HH.out.1.1, HH.out.1.2.2.2⟩)
  have hK3 := hK2.grew hB3
  have HK3 := Lib.hid hK3
  have HO3 := Lib.hid hO3
  have hn3 : n3 ≤ 40 := by rw [← hO3.len]; exact hbl
  have HB3 := Lib.hid (hb2.grew hB3)
  obtain ⟨A, n, cp, b, K⟩ := hK3.knows
  have q0 := K.c0
  have hnk : n ≤ 1000000 := by rw [← K.sl.1]; exact HH.out.2
  have hMac := sha_mac A A3 n cp n3 c3 w3.heap.size key b8y w3 K.sl hO3.sl (Nat.le_refl _) (by omega) (by omega)
  rw [← HM.out, ← HC.out] at hMac
  have HMac := Lib.hid hMac
  clear K hK3 hK2 hb2 hO3 hB3 hMac HAdd HBody HK2 HW2
  go_upto_region 5 with (first
    | (go_at_call 23; refine HMac.out.mono ?_; rintro e w4 ⟨rfl, hB4⟩; have HB4 := Lib.hid hB4; clear hB4; have HST := Lib.hid (boxed_store w4 C M HMl.out HC.out))
    | (refine wpList_value (o := ⟨some 13, _, _, _, _, _⟩) (v := .pointer (some ⟨w4.heap.size, 0, none⟩)) (w' := w4.alloc (.cells dzeros 23)) rfl (by kernel_rfl) ?_)
    | (refine wpList_store_mid rfl 23 (.tmp 13) (.tmp 56) rfl w4.heap.size 0 C.toArray rfl rfl HST.out.1 HST.out.2.1 HST.out.2.2.1 ?_; rw [show (w4.alloc (.cells dzeros 23)).setCells w4.heap.size 0 C.toArray.toList = boxed32 w4 C from by rw [List.toList_toArray]; rfl]))
  clear q0
  obtain ⟨w5, hw5⟩ : ∃ w5, w5 = boxed32 w4 C := ⟨_, rfl⟩
  have hg5 : Grew w4 w5 := by rw [hw5]; exact boxed_grew w4 C
  have HA5 := Lib.hid (show ArrV w5 w4.heap.size (M.map b8) by rw [hw5, ← HC.out]; exact HST.out.2.2.2.1)
  rw [← hw5]
  have hg35 := Grew.trans HB4.out hg5
  have HK5 := Lib.hid (HK3.out.grew hg35)
  have HO5 := Lib.hid (HO3.out.below_all hg35)
  have HB5 := Lib.hid (HB3.out.grew hg35)
  clear hw5 hg5 hg35 HST HB4 HMac HK3 HO3 HB3
  have HX1 := Lib.hid (fun W (hW : Grew w5 W) => auth_hex A3 n3 c3 W.heap.size b8y W (HO5.out.below_all hW).sl (Nat.le_refl _) hbn.out (by omega))
  have HX2 := Lib.hid (fun W (hW : Grew w5 W) => auth_hex (some ⟨w4.heap.size, 0, none⟩) 32 32 W.heap.size M W ((HA5.out.grew hW).sl (n := 32) (c := 32) HMl.out (Nat.le_refl _) (by unfold maxLen; omega)) (Nat.le_refl _) (fun e => by have := HMl.out; rw [e] at this; simp at this) (by omega))
  obtain ⟨X, hX⟩ : ∃ X, X = ShaP.hex b8y := ⟨_, rfl⟩
  obtain ⟨Y, hY⟩ : ∃ Y, Y = ShaP.hex M := ⟨_, rfl⟩
  have hXl : X.length ≤ 80 := by rw [hX, ShaP.hex_len]; omega
  have hYl : Y.length ≤ 64 := by rw [hY, ShaP.hex_len, HMl.out]; omega
  rw [← hX] at HX1 HTok
  rw [← hY] at HX2 HTok
  clear hX hY
  refine wp_region_x [] (by kernel_rfl) (by kernel_rfl) (by kernel_rfl) ?_
  simp only [blank, List.foldl_nil]
  repeat (first
    | (refine wpX_value (v := ?_) rfl (by intros; simp) rfl rfl (fun x => ?_) ?_; rotate_left; (focus (simp [go_sem, ↓IntWalk.iteOmega]; (try go_ints); first | done | (with_reducible rfl))); (simp only [Act.put, List.setIfInBounds_toArray, List.set_cons_succ, List.set_cons_zero]))
    | (refine wpX_call (o := ⟨some 58, _, _, _, _, _⟩) (.string ⟨X.toArray⟩) _ _ rfl (by intros; simp) rfl rfl (fun _ => ?_) (fun w' hw' => HX1.out w' hw') ?_; (focus (simp [go_sem]; done)); (simp only [Act.put, List.setIfInBounds_toArray, List.set_cons_succ, List.set_cons_zero]))
    | (refine wpX_call (o := ⟨some 62, _, _, _, _, _⟩) (.string ⟨Y.toArray⟩) _ _ rfl (by intros; simp) rfl rfl (fun _ => ?_) (fun w' hw' => HX2.out w' hw') ?_; (focus (simp [go_sem]; done)); (simp only [Act.put, List.setIfInBounds_toArray, List.set_cons_succ, List.set_cons_zero])))
  (refine wpX_nil ?_; intro xb wx hxg xl; obtain ⟨xf, xe⟩ := LikeAll.end_ xl; clear xl; subst xe; simp only [fill, List.foldl_nil, Act.put])
  have HKx := Lib.hid (HK5.out.grew hxg)
  have HBx := Lib.hid (HB5.out.grew hxg)
  clear hxg
  go_wp2_with fail
  go_ret2
  refine ⟨?_, HKx.out, HBx.out⟩
  rw [HTok.out, ← tok_string]
  rfl
end Go.Proofs.Ytohgkadbajmphaa
namespace Go.Proofs.Ytohgkadbajmphaa
open Go.RowKit
set_option linter.unusedVariables false
theorem parse_digits {t b s : List UInt8} {c : AuthP.Cl} (h : AuthP.parse t = some (c, b, s)) : s.length % 2 = 0 ∧ s.all ShaP.isd = true := by
  rw [parse_eq] at h
  split at h
  · rename_i hc
    rcases hcl : AuthP.claim (ShaP.unhex (dotA (behind t))) with _ | c'
    · rw [hcl] at h; cases h
    · rw [hcl] at h
      simp only [Option.map_some, Option.some.injEq, Prod.mk.injEq] at h
      obtain ⟨_, _, rfl⟩ := h
      simp only [Bool.and_eq_true, decide_eq_true_eq] at hc
      have := hc.1.2
      unfold uok at this
      simp only [Bool.and_eq_true, decide_eq_true_eq] at this
      exact this
  · cases h
theorem hex_eq {m s : List UInt8} (h : s.length % 2 = 0 ∧ s.all ShaP.isd = true) : ShaP.hex m = s ↔ m = ShaP.unhex s := by
  constructor
  · intro e; rw [← e, ShaP.unhex_hex]
  · intro e; rw [e, ShaP.hex_unhex s h.1 h.2]
set_option maxRecDepth 100000 in
set_option maxHeartbeats 2000000 in
theorem keep_verify (base top g : Nat) (key : List UInt8) (issued asked : Nat) (rev : Nat → Bool) (k : Nat) (t : List UInt8) (now : Int) (w : World) (hK : Keep w base top g key issued asked rev k) (ha : asked < 1000000) (hi : issued < 1000000) (hkey : key.length ≤ 1000000) (hm : t.length ≤ 17592186044416) :
    Calls Try.prog 35 #[.pointer (some ⟨g, 0, none⟩), .string ⟨t.toArray⟩, .int .i64 now] w fun e w' => e = .returned (.tuple #[.agg (clv (AuthP.verifyC key issued rev t now)).toArray, .int .i64 (AuthP.verifyE key issued rev t now)]) ∧ Keep w' base top g key issued (asked + 1) rev k ∧ Out base top w w' := by
  have e64 := two64_eq
  have hbase := hK.lt
  have hA0 := cz_made w
  obtain ⟨w1, hw1⟩ : ∃ w1, w1 = w.alloc (.cells #[.int .i64 0, .int .u64 0, .int .u64 0, .int .i64 0] 50) := ⟨_, rfl⟩
  have hg1 : Grew w w1 := by rw [hw1]; exact (Below.refl _ _).alloc (Nat.le_refl _) _
  rw [← hw1] at hA0
  have hK1 := hK.grew hg1
  obtain ⟨A, n, cp, b, K⟩ := hK1.knows
  have HAdd := Lib.hid (u64_add g 2 asked w1 K.c2 (K.f 2) (by omega))
  have hK2 := hK1.setAsked (asked + 1)
  have hA2 : ArrV (w1.setCell ⟨g, 2, none⟩ (.int .u64 ((asked + 1 : Nat) : Int))) w.heap.size czeros := hA0.setOther (by show g ≠ w.heap.size; omega) _
  have hb2 : Out base top w (w1.setCell ⟨g, 2, none⟩ (.int .u64 ((asked + 1 : Nat) : Int))) := ((Out.refl base top w).grew hg1).row (grown_cell w1 ⟨g, 2, none⟩ _) (.inl ⟨hbase.1, hbase.2.2.2⟩)
  obtain ⟨w2, hw2⟩ : ∃ w2, w2 = w1.setCell ⟨g, 2, none⟩ (.int .u64 ((asked + 1 : Nat) : Int)) := ⟨_, rfl⟩
  rw [← hw2] at hK2 hA2 hb2 HAdd
  have HK2 := Lib.hid hK2
  have HA2 := Lib.hid hA2
  have HB2 := Lib.hid hb2
  have HW1 := Lib.hid hw1
  have HBASE := Lib.hid hbase
  have HR := Lib.hid (auth_read t w2 hm)
  obtain ⟨CC, hCC⟩ : ∃ C, C = clv (readC t) := ⟨_, rfl⟩
  have HC := Lib.hid (show CC.length = 4 ∧ ∀ v ∈ CC, v.oneCell' = true by rw [hCC]; exact ⟨rfl, one_clv _⟩)
  have HCC := Lib.hid hCC
  clear e64 hbase hA0 hw1 hg1 hK1 K hK2 hA2 hb2 hw2 hK hCC
  go_enter Try.func35, Try.ntmps35
  go_upto_region 1 with fail
  rw [← HW1.out]
  go_upto_region 2 with (go_at_call 50; refine HAdd.out.mono ?_; rintro e w3 ⟨rfl, rfl⟩)
  go_upto_region 3 with (first
    | (go_at_call 52; refine HR.out.mono ?_; intro e w3 hA; obtain ⟨A3, n3, c3, A4, n4, c4, he, hO3, hO4, hB3⟩ := readA_cases hA; rw [← HCC.out] at he; subst he; have HST := Lib.hid (boxedC_store w3 CC HC.out.1 HC.out.2))
    | (refine wpList_value (o := ⟨some 8, _, _, _, _, _⟩) (v := .pointer (some ⟨w3.heap.size, 0, none⟩)) (w' := w3.alloc (.cells #[.int .i64 0, .int .u64 0, .int .u64 0, .int .i64 0] 50)) rfl (by kernel_rfl) ?_)
    | (refine wpList_store_mid rfl 50 (.tmp 8) (.tmp 20) rfl w3.heap.size 0 CC.toArray rfl rfl HST.out.1 HST.out.2.1 HST.out.2.2.1 ?_; rw [show (w3.alloc (.cells #[.int .i64 0, .int .u64 0, .int .u64 0, .int .i64 0] 50)).setCells w3.heap.size 0 CC.toArray.toList = boxedC w3 CC from by rw [List.toList_toArray]; rfl]))
  obtain ⟨w4, hw4⟩ : ∃ w4, w4 = boxedC w3 CC := ⟨_, rfl⟩
  have hg4 : Grew w3 w4 := by rw [hw4]; exact boxedC_grew w3 CC
  have HA4 := Lib.hid (show ArrV w4 w3.heap.size CC by rw [hw4]; exact HST.out.2.2.2)
  rw [← hw4]
  have hg24 := Grew.trans hB3 hg4
  have HK4 := Lib.hid (HK2.out.grew hg24)
  have HR4 := Lib.hid (HA2.out.grew hg24)
  have HB4 := Lib.hid (HB2.out.grew hg24)
  have HO3 := Lib.hid ((Own.lower hO3 (Nat.zero_le _) : OwnB w3 0 A3 n3 c3 (readB t)).below_all hg4)
  have HO4 := Lib.hid ((Own.lower hO4 (Nat.zero_le _) : OwnB w3 0 A4 n4 c4 (ShaP.unhex (readS t))).below_all hg4)
  have hrw : w.heap.size < w3.heap.size := (HA2.out.grew hB3).lt
  clear hA hO3 hO4 hB3 hw4 hg4 hg24 HST HR HAdd HK2 HA2 HB2
  rcases hp : AuthP.parse t with _ | ⟨c, bd, s⟩
  · have e1 : readE t = 8 := by unfold readE; rw [hp]
    have e2 : AuthP.verifyC key issued rev t now = AuthP.none0 := by unfold AuthP.verifyC; rw [hp]
    have e3 : AuthP.verifyE key issued rev t now = 8 := by unfold AuthP.verifyE; rw [hp]
    rw [e1]
    have E2 := Lib.hid e2
    have E3 := Lib.hid e3
    have HS := Lib.hid (claim_there HR4.out rfl (C := czeros) rfl (one_clv AuthP.none0))
    have hld := claim_load HS.out.2.2.2 rfl
    have HLD : Hid (∀ W, W = w4.setCells w.heap.size 0 [.int .i64 0, .int .u64 0, .int .u64 0, .int .i64 0] → (loadVar 50 ⟨w.heap.size, 0, none⟩).run Try.prog W = .ok (.agg #[.int .i64 0, .int .u64 0, .int .u64 0, .int .i64 0]) W) := Lib.hid fun W e => by rw [e]; exact hld
    have hgr := grown_setCells w.heap.size czeros 0 w4
    have HKE := Lib.hid (show Keep (w4.setCells w.heap.size 0 czeros) base top g key issued (asked + 1) rev k ∧ Out base top w (w4.setCells w.heap.size 0 czeros) from ⟨HK4.out.apart hgr HBASE.out.2.2.1, HB4.out.row hgr (.inr (Nat.le_refl _))⟩)
    clear e1 e2 e3 hp hld hgr
    go_wp2_with (refine wpList_store_mid rfl 50 (.tmp 6) (.tmp 26) rfl w.heap.size 0 #[.int .i64 0, .int .u64 0, .int .u64 0, .int .i64 0] rfl rfl HS.out.1 HS.out.2.1 HS.out.2.2.1 ?_)
    have hres2 := HLD.out (w4.setCells w.heap.size 0 [.int .i64 0, .int .u64 0, .int .u64 0, .int .i64 0]) rfl
    refine bodyPost_ret (v := .tuple #[.agg #[.int .i64 0, .int .u64 0, .int .u64 0, .int .i64 0], .int .i64 8]) (by simp [results, Try.results35, asAddr, hres2]) rfl ⟨by rw [E2.out, E3.out]; rfl, HKE.out⟩
  · have e1 : readE t = 0 := by unfold readE; rw [hp]
    have e2 : readC t = c := by unfold readC; rw [hp]
    have e3 : readB t = bd := by unfold readB; rw [hp]
    have e4 : readS t = s := by unfold readS; rw [hp]
    have hlen := parse_len (t := t)
    rw [e3, e4] at hlen
    rw [e3] at HO3
    rw [e4] at HO4
    rw [e2] at HCC
    rw [e1]
    have hdig := parse_digits hp
    have HPC := Lib.hid (show AuthP.verifyC key issued rev t now = if ShaP.hex (ShaP.mac key bd) ≠ s ∨ issued < c.num then AuthP.none0 else if rev c.num = true then AuthP.none0 else if (c.over : Int) ≤ now then AuthP.none0 else c by unfold AuthP.verifyC; rw [hp])
    have HPE := Lib.hid (show AuthP.verifyE key issued rev t now = if ShaP.hex (ShaP.mac key bd) ≠ s ∨ issued < c.num then 8 else if rev c.num = true then 10 else if (c.over : Int) ≤ now then 9 else 0 by unfold AuthP.verifyE; rw [hp])
    obtain ⟨M, hM⟩ : ∃ M, M = ShaP.mac key bd := ⟨_, rfl⟩
    have hMl : M.length = 32 := by rw [hM]; exact ShaP.mac_len _ _
    have HEX := Lib.hid (hex_eq (m := M) hdig)
    rw [← hM] at HPC HPE
    obtain ⟨C, hC⟩ : ∃ C, C = M.map b8 := ⟨_, rfl⟩
    have HM := Lib.hid hM
    have HMl := Lib.hid hMl
    have HCM := Lib.hid hC
    have hcl := AuthP.claim_bound (b := bd) (c := c) (by
      have h := hp
      rw [parse_eq] at h
      split at h
      · rcases hcl : AuthP.claim (ShaP.unhex (dotA (behind t))) with _ | c'
        · rw [hcl] at h; cases h
        · rw [hcl] at h
          simp only [Option.map_some, Option.some.injEq, Prod.mk.injEq] at h
          obtain ⟨rfl, rfl, _⟩ := h
          exact hcl
      · cases h)
    have hn3 : n3 ≤ 17592186044416 := by have := (show OwnB w4 0 A3 n3 c3 bd from HO3.out).len; omega
    obtain ⟨A, n, cp, b, K⟩ := HK4.out.knows
    have q0 := K.c0
    have hMac := sha_mac A A3 n cp n3 c3 w4.heap.size key bd w4 K.sl (show OwnB w4 0 A3 n3 c3 bd from HO3.out).sl (Nat.le_refl _) (by have := K.sl.1; omega) (by omega)
    rw [← hM, ← hC] at hMac
    have HMac := Lib.hid hMac
    clear e1 e2 e3 e4 hp hM hMl hC K hMac hdig hlen
    go_upto_region 6 with (first
      | (go_at_call 23; refine HMac.out.mono ?_; rintro e w5 ⟨rfl, hB5⟩; have HB5 := Lib.hid hB5; clear hB5; have HST := Lib.hid (boxed_store w5 C M HMl.out HCM.out))
      | (refine wpList_value (o := ⟨some 12, _, _, _, _, _⟩) (v := .pointer (some ⟨w5.heap.size, 0, none⟩)) (w' := w5.alloc (.cells dzeros 23)) rfl (by kernel_rfl) ?_)
      | (refine wpList_store_mid rfl 23 (.tmp 12) (.tmp 33) rfl w5.heap.size 0 C.toArray rfl rfl HST.out.1 HST.out.2.1 HST.out.2.2.1 ?_; rw [show (w5.alloc (.cells dzeros 23)).setCells w5.heap.size 0 C.toArray.toList = boxed32 w5 C from by rw [List.toList_toArray]; rfl]))
    clear q0
    obtain ⟨w6, hw6⟩ : ∃ w6, w6 = boxed32 w5 C := ⟨_, rfl⟩
    have hg6 : Grew w5 w6 := by rw [hw6]; exact boxed_grew w5 C
    have HD6 := Lib.hid (show ArrV w6 w5.heap.size (M.map b8) by rw [hw6, ← HCM.out]; exact HST.out.2.2.2.1)
    rw [← hw6]
    have hg46 := Grew.trans HB5.out hg6
    have HK6 := Lib.hid (HK4.out.grew hg46)
    have HR6 := Lib.hid (HR4.out.grew hg46)
    have HA6 := Lib.hid (HA4.out.grew hg46)
    have HB6 := Lib.hid (HB4.out.grew hg46)
    have HO46 := Lib.hid ((show OwnB w4 0 A4 n4 c4 (ShaP.unhex s) from HO4.out).below_all hg46)
    have hbw : base ≤ w.heap.size := by have := HBASE.out; omega
    clear hw6 hg6 hg46 HST HB5 HMac HK4 HR4 HA4 HB4 HO3 HO4
    have HZ : Hid (∀ W, Grew w6 W → (W.there w.heap.size 0 (#[.int .i64 0, .int .u64 0, .int .u64 0, .int .i64 0] : Array Value).size ∧ (Try.prog.info? 50).map (·.size) = some (#[.int .i64 0, .int .u64 0, .int .u64 0, .int .i64 0] : Array Value).size ∧ (#[.int .i64 0, .int .u64 0, .int .u64 0, .int .i64 0] : Array Value).all (·.oneCell') = true) ∧
        (loadVar 50 ⟨w.heap.size, 0, none⟩).run Try.prog (W.setCells w.heap.size 0 [.int .i64 0, .int .u64 0, .int .u64 0, .int .i64 0]) = .ok (.agg #[.int .i64 0, .int .u64 0, .int .u64 0, .int .i64 0]) (W.setCells w.heap.size 0 [.int .i64 0, .int .u64 0, .int .u64 0, .int .i64 0]) ∧
        Keep (W.setCells w.heap.size 0 [.int .i64 0, .int .u64 0, .int .u64 0, .int .i64 0]) base top g key issued (asked + 1) rev k ∧ Out base top w (W.setCells w.heap.size 0 [.int .i64 0, .int .u64 0, .int .u64 0, .int .i64 0])) := Lib.hid fun W hW => by
      have h1 := claim_there (HR6.out.grew hW) rfl (C := [.int .i64 0, .int .u64 0, .int .u64 0, .int .i64 0]) rfl (one_clv AuthP.none0)
      have hgr := grown_setCells w.heap.size [.int .i64 0, .int .u64 0, .int .u64 0, .int .i64 0] 0 W
      exact ⟨⟨h1.1, h1.2.1, h1.2.2.1⟩, claim_load h1.2.2.2 rfl, (HK6.out.grew hW).apart hgr HBASE.out.2.2.1, (HB6.out.grew hW).row hgr (.inr (Nat.le_refl _))⟩
    have HEqu := Lib.hid (show ∀ W, Grew w6 W → Calls Try.prog 21 #[.slice (some ⟨w5.heap.size, 0, none⟩) 32 32, .slice A4 n4 c4] W fun e w' => e = .returned (.bool (decide (M = ShaP.unhex s))) ∧ Grew W w' from fun W hW =>
      sha_equal _ _ 32 32 n4 c4 W.heap.size M (ShaP.unhex s) W ((HD6.out.grew hW).sl (n := 32) (c := 32) HMl.out (Nat.le_refl _) (by unfold maxLen; omega)) (HO46.out.below_all hW).sl (Nat.le_refl _))
    have HIss := Lib.hid (show ∀ W, Grew w6 W → Calls Try.prog 33 #[.pointer (some ⟨g, 0, none⟩)] W fun e w' => e = .returned (.int .u64 (issued : Int)) ∧ W = w' from fun W hW => keep_issued base top g key issued (asked + 1) rev k W (HK6.out.grew hW))
    have HNUM := Lib.hid (show ∀ y : GrewOf w6, y.1.cell? ⟨w3.heap.size, 2, none⟩ = some (.int .u64 (c.num : Int)) from fun y => (HA6.out.grew y.2).atSome (by rw [HCC.out]; rfl))
    by_cases hme : M = ShaP.unhex s
    · have hf1 : ¬ ShaP.hex M ≠ s := fun h => h (HEX.out.2 hme)
      rw [decide_eq_true hme] at HEqu
      clear hme
      by_cases hnum : issued < c.num
      · have E2 := Lib.hid (show AuthP.verifyC key issued rev t now = AuthP.none0 by rw [HPC.out, if_pos (.inr hnum)])
        have E3 := Lib.hid (show AuthP.verifyE key issued rev t now = 8 by rw [HPE.out, if_pos (.inr hnum)])
        have i1 : (issued : Int) < (c.num : Int) := by omega
        have HQ := Lib.hid (And.intro HNUM.out i1)
        clear hnum i1 hf1
        have hqq := HQ.out
        refine wp_region_x [] (by kernel_rfl) (by kernel_rfl) (by kernel_rfl) ?_
        simp only [blank, List.foldl_nil]
        repeat (first
          | (refine wpX_value (v := ?_) rfl (by intros; simp) rfl rfl (fun x => ?_) ?_; rotate_left; (focus (simp [go_sem, hqq]; (try go_ints); first | done | (with_reducible rfl))); (simp only [Act.put, List.setIfInBounds_toArray, List.set_cons_succ, List.set_cons_zero]))
          | (refine wpX_call (o := ⟨some 37, _, _, _, _, _⟩) (.bool true) _ _ rfl (by intros; simp) rfl rfl (fun _ => ?_) (fun w' hw' => HEqu.out w' hw') ?_; (focus (simp [go_sem]; done)); (simp only [Act.put, List.setIfInBounds_toArray, List.set_cons_succ, List.set_cons_zero]))
          | (refine wpX_call (o := ⟨some 43, _, _, _, _, _⟩) (.int .u64 (issued : Int)) _ _ rfl (by intros; simp) rfl rfl (fun _ => ?_) (fun w' hw' => (HIss.out w' hw').mono fun _ _ h => ⟨h.1, h.2 ▸ Grew.refl _⟩) ?_; (focus (simp [go_sem]; done)); (simp only [Act.put, List.setIfInBounds_toArray, List.set_cons_succ, List.set_cons_zero])))
        (refine wpX_nil ?_; intro xb wx hxg xl; obtain ⟨xf, xe⟩ := LikeAll.end_ xl; clear xl; subst xe; simp only [fill, List.foldl_nil, Act.put])
        clear hqq
        have hZ := HZ.out _ hxg
        go_wp2_with (refine wpList_store_mid rfl 50 (.tmp 6) (.tmp 46) rfl w.heap.size 0 #[.int .i64 0, .int .u64 0, .int .u64 0, .int .i64 0] rfl rfl hZ.1.1 hZ.1.2.1 hZ.1.2.2 ?_)
        have hres2 := hZ.2.1
        refine bodyPost_ret (v := .tuple #[.agg #[.int .i64 0, .int .u64 0, .int .u64 0, .int .i64 0], .int .i64 8]) (by simp [results, Try.results35, asAddr, hres2]) rfl ⟨by rw [E2.out, E3.out]; rfl, hZ.2.2⟩
      · have i1 : ¬ (issued : Int) < (c.num : Int) := by omega
        have e64 := two64_eq
        have hn64 : c.num < two64 := by omega
        have HF := Lib.hid (show ¬ (ShaP.hex M ≠ s ∨ issued < c.num) from fun h => h.elim hf1 hnum)
        have HQ := Lib.hid (And.intro HNUM.out i1)
        clear hnum i1 hf1 e64
        have hqq := HQ.out
        refine wp_region_x [] (by kernel_rfl) (by kernel_rfl) (by kernel_rfl) ?_
        simp only [blank, List.foldl_nil]
        repeat (first
          | (refine wpX_value (v := ?_) rfl (by intros; simp) rfl rfl (fun x => ?_) ?_; rotate_left; (focus (simp [go_sem, hqq]; (try go_ints); first | done | (with_reducible rfl))); (simp only [Act.put, List.setIfInBounds_toArray, List.set_cons_succ, List.set_cons_zero]))
          | (refine wpX_call (o := ⟨some 37, _, _, _, _, _⟩) (.bool true) _ _ rfl (by intros; simp) rfl rfl (fun _ => ?_) (fun w' hw' => HEqu.out w' hw') ?_; (focus (simp [go_sem]; done)); (simp only [Act.put, List.setIfInBounds_toArray, List.set_cons_succ, List.set_cons_zero]))
          | (refine wpX_call (o := ⟨some 43, _, _, _, _, _⟩) (.int .u64 (issued : Int)) _ _ rfl (by intros; simp) rfl rfl (fun _ => ?_) (fun w' hw' => (HIss.out w' hw').mono fun _ _ h => ⟨h.1, h.2 ▸ Grew.refl _⟩) ?_; (focus (simp [go_sem]; done)); (simp only [Act.put, List.setIfInBounds_toArray, List.set_cons_succ, List.set_cons_zero])))
        (refine wpX_nil ?_; intro xb wx hxg xl; obtain ⟨xf, xe⟩ := LikeAll.end_ xl; clear xl; subst xe; simp only [fill, List.foldl_nil, Act.put])
        clear hqq
        have hg7 := hxg
        clear hxg
        have hK7 := HK6.out.grew hg7
        obtain ⟨A7, n7, c7, b7, K7⟩ := hK7.knows
        have hglt := hK7.lt.2.1
        have HC3 := Lib.hid (show ∀ y : GrewOf wx, y.1.cell? ⟨g, 3, none⟩ = some (.map (some b7)) from fun y => (Below.cell y.2 (p := ⟨g, 3, none⟩) hglt).trans K7.c3)
        have HLK := Lib.hid (show ∀ y : GrewOf wx, (Instr.lookup 100 (.map (some b7)) (.int .u64 (c.num : Int)) false).run Try.prog y.1 = .ok (.bool (rev c.num)) y.1 from fun y =>
          (K7.map.kept (row := none) ⟨y.2.os, y.2.tape, y.2.output, y.2.size, fun k hk _ => y.2.block k hk⟩ (by simp)).look hn64)
        have HNUM7 := Lib.hid (show ∀ y : GrewOf wx, y.1.cell? ⟨w3.heap.size, 2, none⟩ = some (.int .u64 (c.num : Int)) from fun y => HNUM.out ⟨y.1, hg7.trans y.2⟩)
        have HQ7 := Lib.hid (And.intro HC3.out (And.intro HLK.out HNUM7.out))
        clear hK7 K7 hglt
        go_upto_region 8 with fail
        have hqq := HQ7.out
        refine wp_region_x [] (by kernel_rfl) (by kernel_rfl) (by kernel_rfl) ?_
        simp only [blank, List.foldl_nil]
        repeat ((refine wpX_value (v := ?_) rfl (by intros; simp) rfl rfl (fun x => ?_) ?_; rotate_left; (focus (simp [go_sem, hqq]; (try go_ints); first | done | (with_reducible rfl))); (simp only [Act.put, List.setIfInBounds_toArray, List.set_cons_succ, List.set_cons_zero])))
        (refine wpX_nil ?_; intro xb wx hxg xl; obtain ⟨xf, xe⟩ := LikeAll.end_ xl; clear xl; subst xe; simp only [fill, List.foldl_nil, Act.put])
        clear hqq
        have hg8 := Grew.trans hg7 hxg
        clear hxg hg7
        have hZ := HZ.out _ hg8
        have HA8 := Lib.hid (HA6.out.grew hg8)
        have q3 : wx.cell? ⟨w3.heap.size, 3, none⟩ = some (.int .i64 (c.over : Int)) := HA8.out.atSome (by rw [HCC.out]; rfl)
        rcases hrv : rev c.num with _ | _
        · by_cases hov : (c.over : Int) ≤ now
          · have E2 := Lib.hid (show AuthP.verifyC key issued rev t now = AuthP.none0 by rw [HPC.out, if_neg HF.out, hrv, if_neg (by simp), if_pos hov])
            have E3 := Lib.hid (show AuthP.verifyE key issued rev t now = 9 by rw [HPE.out, if_neg HF.out, hrv, if_neg (by simp), if_pos hov])
            clear hrv
            go_wp2_with (refine wpList_store_mid rfl 50 (.tmp 6) (.tmp 61) rfl w.heap.size 0 #[.int .i64 0, .int .u64 0, .int .u64 0, .int .i64 0] rfl rfl hZ.1.1 hZ.1.2.1 hZ.1.2.2 ?_)
            have hres2 := hZ.2.1
            refine bodyPost_ret (v := .tuple #[.agg #[.int .i64 0, .int .u64 0, .int .u64 0, .int .i64 0], .int .i64 9]) (by simp [results, Try.results35, asAddr, hres2]) rfl ⟨by rw [E2.out, E3.out]; rfl, hZ.2.2⟩
          · have E2 := Lib.hid (show AuthP.verifyC key issued rev t now = c by rw [HPC.out, if_neg HF.out, hrv, if_neg (by simp), if_neg hov])
            have E3 := Lib.hid (show AuthP.verifyE key issued rev t now = 0 by rw [HPE.out, if_neg HF.out, hrv, if_neg (by simp), if_neg hov])
            have HINF := Lib.hid (show (Try.prog.info? 50).map (·.size) = some CC.length by rw [HC.out.1]; kernel_rfl)
            have HS8 := Lib.hid (claim_there (HR6.out.grew hg8) rfl HC.out.1 HC.out.2)
            have hld := claim_load HS8.out.2.2.2 HC.out.1
            have HLD8 : Hid (∀ W, W = wx.setCells w.heap.size 0 CC → (loadVar 50 ⟨w.heap.size, 0, none⟩).run Try.prog W = .ok (.agg CC.toArray) W) := Lib.hid fun W e => by rw [e]; exact hld
            have hgr := grown_setCells w.heap.size CC 0 wx
            have HKE := Lib.hid (show Keep (wx.setCells w.heap.size 0 CC) base top g key issued (asked + 1) rev k ∧ Out base top w (wx.setCells w.heap.size 0 CC) from ⟨(HK6.out.grew hg8).apart hgr HBASE.out.2.2.1, (HB6.out.grew hg8).row hgr (.inr (Nat.le_refl _))⟩)
            clear hrv hld hgr hZ
            go_wp2_with (first
              | (refine wpList_load_mid rfl 50 (.tmp 8) rfl w3.heap.size 0 rfl CC _ HA8.out.range Try.underlying50 rfl HINF.out ?_)
              | (refine wpList_store_mid rfl 50 (.tmp 6) (.tmp 62) rfl w.heap.size 0 CC.toArray rfl rfl HS8.out.1 HS8.out.2.1 HS8.out.2.2.1 ?_))
            have hres2 := HLD8.out (wx.setCells w.heap.size 0 CC.toArray.toList) (by simp)
            refine bodyPost_ret (v := .tuple #[.agg CC.toArray, .int .i64 0]) (by simp [results, Try.results35, asAddr, hres2]) rfl ⟨by rw [E2.out, E3.out, HCC.out], by simpa using HKE.out⟩
        · have E2 := Lib.hid (show AuthP.verifyC key issued rev t now = AuthP.none0 by rw [HPC.out, if_neg HF.out, hrv, if_pos rfl])
          have E3 := Lib.hid (show AuthP.verifyE key issued rev t now = 10 by rw [HPE.out, if_neg HF.out, hrv, if_pos rfl])
          clear hrv
          go_wp2_with (refine wpList_store_mid rfl 50 (.tmp 6) (.tmp 55) rfl w.heap.size 0 #[.int .i64 0, .int .u64 0, .int .u64 0, .int .i64 0] rfl rfl hZ.1.1 hZ.1.2.1 hZ.1.2.2 ?_)
          have hres2 := hZ.2.1
          refine bodyPost_ret (v := .tuple #[.agg #[.int .i64 0, .int .u64 0, .int .u64 0, .int .i64 0], .int .i64 10]) (by simp [results, Try.results35, asAddr, hres2]) rfl ⟨by rw [E2.out, E3.out]; rfl, hZ.2.2⟩
    · have hf1 : ShaP.hex M ≠ s := fun h => hme (HEX.out.1 h)
      have E2 := Lib.hid (show AuthP.verifyC key issued rev t now = AuthP.none0 by rw [HPC.out, if_pos (.inl hf1)])
      have E3 := Lib.hid (show AuthP.verifyE key issued rev t now = 8 by rw [HPE.out, if_pos (.inl hf1)])
      rw [decide_eq_false hme] at HEqu
      clear hme hf1
      refine wp_region_x [] (by kernel_rfl) (by kernel_rfl) (by kernel_rfl) ?_
      simp only [blank, List.foldl_nil]
      repeat (first
        | (refine wpX_value (v := ?_) rfl (by intros; simp) rfl rfl (fun x => ?_) ?_; rotate_left; (focus (simp [go_sem]; (try go_ints); first | done | (with_reducible rfl))); (simp only [Act.put, List.setIfInBounds_toArray, List.set_cons_succ, List.set_cons_zero]))
        | (refine wpX_skip rfl ?_; (simp only [Act.put, List.setIfInBounds_toArray, List.set_cons_succ, List.set_cons_zero]))
        | (refine wpX_call (o := ⟨some 37, _, _, _, _, _⟩) (.bool false) _ _ rfl (by intros; simp) rfl rfl (fun _ => ?_) (fun w' hw' => HEqu.out w' hw') ?_; (focus (simp [go_sem]; done)); (simp only [Act.put, List.setIfInBounds_toArray, List.set_cons_succ, List.set_cons_zero])))
      (refine wpX_nil ?_; intro xb wx hxg xl; obtain ⟨xf, xe⟩ := LikeAll.end_ xl; clear xl; subst xe; simp only [fill, List.foldl_nil, Act.put])
      have hZ := HZ.out _ hxg
      go_wp2_with (refine wpList_store_mid rfl 50 (.tmp 6) (.tmp 46) rfl w.heap.size 0 #[.int .i64 0, .int .u64 0, .int .u64 0, .int .i64 0] rfl rfl hZ.1.1 hZ.1.2.1 hZ.1.2.2 ?_)
      have hres2 := hZ.2.1
      refine bodyPost_ret (v := .tuple #[.agg #[.int .i64 0, .int .u64 0, .int .u64 0, .int .i64 0], .int .i64 8]) (by simp [results, Try.results35, asAddr, hres2]) rfl ⟨by rw [E2.out, E3.out]; rfl, hZ.2.2⟩
end Go.Proofs.Ytohgkadbajmphaa
namespace Go.Proofs.Ytohgkadbajmphaa
open Go.RowKit
set_option linter.unusedVariables false
theorem own_src {w : World} {B n cap : Nat} {A : Option Addr} {l : List UInt8} (h : OwnB w B A n cap l) : Src Try.prog w 1 (.slice A n cap) n (l.map b8) := Src.slice (by rw [List.length_map, h.len, Nat.mul_one]) h.row
set_option maxRecDepth 100000 in
set_option maxHeartbeats 1000000 in
theorem law_token (A : Option Addr) (n cp B : Nat) (key : List UInt8) (c : AuthP.Cl) (w : World) (hS : Sl w B A n cp key) (hB : B ≤ w.heap.size) (hkey : key.length ≤ 1000000) (h : AuthP.good c) :
    Calls Try.prog 34 #[.slice A n cp, .agg #[.int .i64 (c.dev : Int), .int .u64 (c.epoch : Int), .int .u64 (c.num : Int), .int .i64 (c.over : Int)]] w fun e w' => e = .returned (.string ⟨(AuthP.tok key c).toArray⟩) ∧ Grew w w' := by
  obtain ⟨h1, h2, h3, h4, h5, h6⟩ := h
  have e64 := two64_eq
  have HV1 := Lib.hid (show c.dev < two64 by omega)
  have HV2 := Lib.hid (show c.epoch < two64 by omega)
  have HV3 := Lib.hid h4
  have HV4 := Lib.hid (show c.over < two64 by omega)
  have HW1 := Lib.hid (wrap_u64i (a := (c.dev : Int)) (by omega) (by omega))
  have HW4 := Lib.hid (wrap_u64i (a := (c.over : Int)) (by omega) (by omega))
  have hL1 := BinP.enc_len c.dev
  have hL2 := BinP.enc_len c.epoch
  have hL3 := BinP.enc_len c.num
  have hL4 := BinP.enc_len c.over
  have HS := Lib.hid hS
  have hnk : n ≤ 1000000 := by rw [← hS.1]; exact hkey
  have hbl := body_len c
  have hbn := Lib.hid (body_ne c)
  obtain ⟨M, hM⟩ : ∃ M, M = ShaP.mac key (AuthP.body c) := ⟨_, rfl⟩
  have hMl : M.length = 32 := by rw [hM]; exact ShaP.mac_len _ _
  have HTok := Lib.hid (show AuthP.tok key c = AuthP.head ++ (ShaP.hex (AuthP.body c) ++ ([46] ++ ShaP.hex M)) by unfold AuthP.tok; rw [hM])
  obtain ⟨C, hC⟩ : ∃ C, C = M.map b8 := ⟨_, rfl⟩
  have HM := Lib.hid hM
  have HMl := Lib.hid hMl
  have HCM := Lib.hid hC
  clear h1 h2 h3 h4 h5 h6 e64 hS hM hMl hC
  have hA := ArrV.made w #[.int .i64 (c.dev : Int), .int .u64 (c.epoch : Int), .int .u64 (c.num : Int), .int .i64 (c.over : Int)] 50
  obtain ⟨w1, hw1⟩ : ∃ w1, w1 = w.alloc (.cells #[.int .i64 (c.dev : Int), .int .u64 (c.epoch : Int), .int .u64 (c.num : Int), .int .i64 (c.over : Int)] 50) := ⟨_, rfl⟩
  have HB1 := Lib.hid (show Below w.heap.size w w1 by rw [hw1]; exact (Below.refl _ _).alloc (Nat.le_refl _) _)
  rw [← hw1] at hA
  have HA := Lib.hid (show ArrV w1 w.heap.size (clv c) from hA)
  have HW := Lib.hid hw1
  have p0 := HA.out.atSome (i := 0) rfl
  clear hA hw1
  have hwdev := HW1.out
  go_enter Try.func34, Try.ntmps34
  go_upto_region 1 with fail
  rw [← HW.out]
  go_upto_region 2 with (go_at_call 54; refine (ref_enc c.dev w1 HV1.out).mono ?_; rintro e w2 ⟨A2, n2, c2, rfl, hO2, hB2⟩)
  clear p0 hwdev
  have hlt1 : w.heap.size < w1.heap.size := HA.out.lt
  have HO2 := Lib.hid hO2
  have HN2 := Lib.hid hO2.len
  have HB2 := Lib.hid (HB1.out.trans (hB2.mono (by omega)))
  have HA2 := Lib.hid (HA.out.grew hB2)
  have HZ2 := Lib.hid hB2.size
  clear hO2 hB2
  refine wp_region_c (fun W => ArrV W w.heap.size (clv c) ∧ Below w.heap.size w W ∧ w1.heap.size ≤ W.heap.size) (by kernel_rfl) ⟨HA2.out.drewN 1, HB2.out.trans ((Grew.drewN w2 1).mono HB2.out.size), HZ2.out⟩ ?_
  have HC := Lib.hid (show (fun W => ArrV W w.heap.size (clv c) ∧ Below w.heap.size w W ∧ w1.heap.size ≤ W.heap.size) (w2.drewN 1) from ⟨HA2.out.drewN 1, HB2.out.trans ((Grew.drewN w2 1).mono HB2.out.size), HZ2.out⟩)
  have hq1 : ∀ x : { x : World // ArrV x w.heap.size (clv c) ∧ Below w.heap.size w x ∧ w1.heap.size ≤ x.heap.size }, x.1.cell? ⟨w.heap.size, 1, none⟩ = some (.int .u64 (c.epoch : Int)) := fun x => x.2.1.atSome rfl
  have hq2 : ∀ x : { x : World // ArrV x w.heap.size (clv c) ∧ Below w.heap.size w x ∧ w1.heap.size ≤ x.heap.size }, x.1.cell? ⟨w.heap.size, 2, none⟩ = some (.int .u64 (c.num : Int)) := fun x => x.2.1.atSome rfl
  have hq3 : ∀ x : { x : World // ArrV x w.heap.size (clv c) ∧ Below w.heap.size w x ∧ w1.heap.size ≤ x.heap.size }, x.1.cell? ⟨w.heap.size, 3, none⟩ = some (.int .i64 (c.over : Int)) := fun x => x.2.1.atSome rfl
  have HQ := Lib.hid (And.intro hq1 (And.intro hq2 (And.intro hq3 HW4.out)))
  clear hq1 hq2 hq3
  have hqq := HQ.out
  (refine wpAnyC_free 0 (oi := ⟨some 11, _, _, _, _, _⟩) (v := ?_) rfl (by kernel_rfl) (by kernel_rfl) (by kernel_rfl) HC.out rfl (fun x => ?_) ?_; rotate_left; (focus (simp [go_sem]; (try go_ints); first | done | (with_reducible rfl))); (simp only [Act.put, List.setIfInBounds_toArray, List.set_cons_succ, List.set_cons_zero]))
  (refine wpAnyC_free 1 (oi := ⟨some 12, _, _, _, _, _⟩) (v := ?_) rfl (by kernel_rfl) (by kernel_rfl) (by kernel_rfl) HC.out rfl (fun x => ?_) ?_; rotate_left; (focus (simp [go_sem]; (try go_ints); first | done | (with_reducible rfl))); (simp only [Act.put, List.setIfInBounds_toArray, List.set_cons_succ, List.set_cons_zero]))
  (refine wpAnyC_free 2 (oi := ⟨some 13, _, _, _, _, _⟩) (v := ?_) rfl (by kernel_rfl) (by kernel_rfl) (by kernel_rfl) HC.out rfl (fun x => ?_) ?_; rotate_left; (focus (simp [go_sem, hqq]; (try go_ints); first | done | (with_reducible rfl))); (simp only [Act.put, List.setIfInBounds_toArray, List.set_cons_succ, List.set_cons_zero]))
  (refine wpAnyC_free 5 (oi := ⟨some 16, _, _, _, _, _⟩) (v := ?_) rfl (by kernel_rfl) (by kernel_rfl) (by kernel_rfl) HC.out rfl (fun x => ?_) ?_; rotate_left; (focus (simp [go_sem]; (try go_ints); first | done | (with_reducible rfl))); (simp only [Act.put, List.setIfInBounds_toArray, List.set_cons_succ, List.set_cons_zero]))
  (refine wpAnyC_free 6 (oi := ⟨some 17, _, _, _, _, _⟩) (v := ?_) rfl (by kernel_rfl) (by kernel_rfl) (by kernel_rfl) HC.out rfl (fun x => ?_) ?_; rotate_left; (focus (simp [go_sem, hqq]; (try go_ints); first | done | (with_reducible rfl))); (simp only [Act.put, List.setIfInBounds_toArray, List.set_cons_succ, List.set_cons_zero]))
  (refine wpAnyC_free 9 (oi := ⟨some 20, _, _, _, _, _⟩) (v := ?_) rfl (by kernel_rfl) (by kernel_rfl) (by kernel_rfl) HC.out rfl (fun x => ?_) ?_; rotate_left; (focus (simp [go_sem]; (try go_ints); first | done | (with_reducible rfl))); (simp only [Act.put, List.setIfInBounds_toArray, List.set_cons_succ, List.set_cons_zero]))
  (refine wpAnyC_free 10 (oi := ⟨some 21, _, _, _, _, _⟩) (v := ?_) rfl (by kernel_rfl) (by kernel_rfl) (by kernel_rfl) HC.out rfl (fun x => ?_) ?_; rotate_left; (focus (simp [go_sem, hqq]; (try go_ints); first | done | (with_reducible rfl))); (simp only [Act.put, List.setIfInBounds_toArray, List.set_cons_succ, List.set_cons_zero]))
  (refine wpAnyC_free 11 (oi := ⟨some 22, _, _, _, _, _⟩) (v := ?_) rfl (by kernel_rfl) (by kernel_rfl) (by kernel_rfl) HC.out rfl (fun x => ?_) ?_; rotate_left; (focus (simp [go_sem, hqq]; (try go_ints); first | done | (with_reducible rfl))); (simp only [Act.put, List.setIfInBounds_toArray, List.set_cons_succ, List.set_cons_zero]))
  clear hqq
  change wpAnyC _ _ _ _ _ _ _ _ (World.drewN w2 1)
  have HO2 := Lib.hid (HO2.out.drewN 1)
  obtain ⟨w3, hw3⟩ : ∃ w3, w3 = World.drewN w2 1 := ⟨_, rfl⟩
  rw [← hw3] at HC HO2 ⊢
  clear hw3 HA2 HB2 HZ2
  have hn2 : n2 ≤ 10 := by rw [← HN2.out]; exact hL1
  refine wpAnyC_step 3 (o := ⟨some 14, _, _, _, _, _⟩) rfl (by kernel_rfl) rfl ?_
  refine wpList_callR rfl _ _ (fun v w' => ∃ A n cp, v = .slice A n cp ∧ OwnB w' w3.heap.size A n cp (BinP.enc c.epoch) ∧ Below w3.heap.size w3 w') (by simp [go_sem]) ((ref_enc c.epoch w3 HV2.out).mono fun e w' ⟨A, n, cp, he, h1, h2⟩ => ⟨_, he, A, n, cp, rfl, h1, h2⟩) ?_
  rintro v w4 ⟨A4, n4, c4, rfl, hO4, hB4⟩
  have HC := Lib.hid (show (fun W => ArrV W w.heap.size (clv c) ∧ Below w.heap.size w W ∧ w1.heap.size ≤ W.heap.size) w4 from ⟨HC.out.1.grew hB4, HC.out.2.1.trans (hB4.mono HC.out.2.1.size), Nat.le_trans HC.out.2.2 hB4.size⟩)
  have HO4 := Lib.hid hO4
  have HP4 := Lib.hid (HO2.out.below_all hB4)
  have hn4 : n4 ≤ 10 := by rw [← hO4.len]; exact BinP.enc_len _
  clear hO4 hB4
  (simp only [Act.put, List.setIfInBounds_toArray, List.set_cons_succ, List.set_cons_zero])
  refine wpList_nil ⟨rfl, HC.out, ?_⟩
  refine wpAnyC_step 4 (o := ⟨some 15, _, _, _, _, _⟩) rfl (by kernel_rfl) rfl ?_
  refine wpList_appn1 rfl (.tmp 11) (.tmp 14) 31 5 (.int .u8 0) 1 rfl Try.underlying31 info_u8 rfl (by omega) w1.heap.size _ _ _ _ rfl HP4.out n4 ((BinP.enc c.epoch).map b8) (own_src HO4.out) (one_b8s _) (n2 + n4) rfl ((BinP.enc c.dev ++ BinP.enc c.epoch).map b8) (by simp) (by have := hn4; omega) HC.out.2.2 ?_
  intro A5 c5 w5 hO5 hg5 hB5 hor5
  have HO5 := Lib.hid (show OwnB w5 w1.heap.size A5 (n2 + n4) c5 (BinP.enc c.dev ++ BinP.enc c.epoch) from hO5)
  have HC := Lib.hid (show (fun W => ArrV W w.heap.size (clv c) ∧ Below w.heap.size w W ∧ w1.heap.size ≤ W.heap.size) w5 from ⟨HC.out.1.other hg5 (fun e => by have := (Own.lt HP4.out _ e).1; omega), HC.out.2.1.trans (hB5.mono (by omega)), Nat.le_trans HC.out.2.2 hB5.size⟩)
  clear hO5 hg5 hB5 hor5 HO4
  (simp only [Act.put, List.setIfInBounds_toArray, List.set_cons_succ, List.set_cons_zero])
  refine wpList_nil ⟨rfl, HC.out, ?_⟩
  refine wpAnyC_step 7 (o := ⟨some 18, _, _, _, _, _⟩) rfl (by kernel_rfl) rfl ?_
  refine wpList_callR rfl _ _ (fun v w' => ∃ A n cp, v = .slice A n cp ∧ OwnB w' w5.heap.size A n cp (BinP.enc c.num) ∧ Below w5.heap.size w5 w') (by simp [go_sem]) ((ref_enc c.num w5 HV3.out).mono fun e w' ⟨A, n, cp, he, h1, h2⟩ => ⟨_, he, A, n, cp, rfl, h1, h2⟩) ?_
  rintro v w6 ⟨A6, n6, c6, rfl, hO6, hB6⟩
  have HC := Lib.hid (show (fun W => ArrV W w.heap.size (clv c) ∧ Below w.heap.size w W ∧ w1.heap.size ≤ W.heap.size) w6 from ⟨HC.out.1.grew hB6, HC.out.2.1.trans (hB6.mono HC.out.2.1.size), Nat.le_trans HC.out.2.2 hB6.size⟩)
  have HO6 := Lib.hid hO6
  have HP6 := Lib.hid (HO5.out.below_all hB6)
  have hn6 : n6 ≤ 10 := by rw [← hO6.len]; exact BinP.enc_len _
  clear hO6 hB6
  (simp only [Act.put, List.setIfInBounds_toArray, List.set_cons_succ, List.set_cons_zero])
  refine wpList_nil ⟨rfl, HC.out, ?_⟩
  refine wpAnyC_step 8 (o := ⟨some 19, _, _, _, _, _⟩) rfl (by kernel_rfl) rfl ?_
  refine wpList_appn1 rfl (.tmp 15) (.tmp 18) 31 5 (.int .u8 0) 1 rfl Try.underlying31 info_u8 rfl (by omega) w1.heap.size _ _ _ _ rfl HP6.out n6 ((BinP.enc c.num).map b8) (own_src HO6.out) (one_b8s _) ((n2 + n4) + n6) rfl (((BinP.enc c.dev ++ BinP.enc c.epoch) ++ BinP.enc c.num).map b8) (by simp) (by have := hn6; omega) HC.out.2.2 ?_
  intro A7 c7 w7 hO7 hg7 hB7 hor7
  have HO7 := Lib.hid (show OwnB w7 w1.heap.size A7 ((n2 + n4) + n6) c7 ((BinP.enc c.dev ++ BinP.enc c.epoch) ++ BinP.enc c.num) from hO7)
  have HC := Lib.hid (show (fun W => ArrV W w.heap.size (clv c) ∧ Below w.heap.size w W ∧ w1.heap.size ≤ W.heap.size) w7 from ⟨HC.out.1.other hg7 (fun e => by have := (Own.lt HP6.out _ e).1; omega), HC.out.2.1.trans (hB7.mono (by omega)), Nat.le_trans HC.out.2.2 hB7.size⟩)
  clear hO7 hg7 hB7 hor7 HO6
  (simp only [Act.put, List.setIfInBounds_toArray, List.set_cons_succ, List.set_cons_zero])
  refine wpList_nil ⟨rfl, HC.out, ?_⟩
  refine wpAnyC_step 12 (o := ⟨some 23, _, _, _, _, _⟩) rfl (by kernel_rfl) rfl ?_
  refine wpList_callR rfl _ _ (fun v w' => ∃ A n cp, v = .slice A n cp ∧ OwnB w' w7.heap.size A n cp (BinP.enc c.over) ∧ Below w7.heap.size w7 w') (by simp [go_sem]) ((ref_enc c.over w7 HV4.out).mono fun e w' ⟨A, n, cp, he, h1, h2⟩ => ⟨_, he, A, n, cp, rfl, h1, h2⟩) ?_
  rintro v w8 ⟨A8, n8, c8, rfl, hO8, hB8⟩
  have HC := Lib.hid (show (fun W => ArrV W w.heap.size (clv c) ∧ Below w.heap.size w W ∧ w1.heap.size ≤ W.heap.size) w8 from ⟨HC.out.1.grew hB8, HC.out.2.1.trans (hB8.mono HC.out.2.1.size), Nat.le_trans HC.out.2.2 hB8.size⟩)
  have HO8 := Lib.hid hO8
  have HP8 := Lib.hid (HO7.out.below_all hB8)
  have hn8 : n8 ≤ 10 := by rw [← hO8.len]; exact BinP.enc_len _
  clear hO8 hB8
  (simp only [Act.put, List.setIfInBounds_toArray, List.set_cons_succ, List.set_cons_zero])
  refine wpList_nil ⟨rfl, HC.out, ?_⟩
  refine wpAnyC_step 13 (o := ⟨some 24, _, _, _, _, _⟩) rfl (by kernel_rfl) rfl ?_
  refine wpList_appn1 rfl (.tmp 19) (.tmp 23) 31 5 (.int .u8 0) 1 rfl Try.underlying31 info_u8 rfl (by omega) w1.heap.size _ _ _ _ rfl HP8.out n8 ((BinP.enc c.over).map b8) (own_src HO8.out) (one_b8s _) ((n2 + n4 + n6) + n8) rfl (((BinP.enc c.dev ++ BinP.enc c.epoch ++ BinP.enc c.num) ++ BinP.enc c.over).map b8) (by simp) (by have := hn8; omega) HC.out.2.2 ?_
  intro A9 c9 w9 hO9 hg9 hB9 hor9
  have HO9 := Lib.hid (show OwnB w9 w1.heap.size A9 ((n2 + n4 + n6) + n8) c9 ((BinP.enc c.dev ++ BinP.enc c.epoch ++ BinP.enc c.num) ++ BinP.enc c.over) from hO9)
  have HC := Lib.hid (show (fun W => ArrV W w.heap.size (clv c) ∧ Below w.heap.size w W ∧ w1.heap.size ≤ W.heap.size) w9 from ⟨HC.out.1.other hg9 (fun e => by have := (Own.lt HP8.out _ e).1; omega), HC.out.2.1.trans (hB9.mono (by omega)), Nat.le_trans HC.out.2.2 hB9.size⟩)
  clear hO9 hg9 hB9 hor9 HO8
  (simp only [Act.put, List.setIfInBounds_toArray, List.set_cons_succ, List.set_cons_zero])
  refine wpList_nil ⟨rfl, HC.out, ?_⟩
  (refine wpAnyC_free 14 (oi := ⟨some 5, _, _, _, _, _⟩) (v := ?_) rfl (by kernel_rfl) (by kernel_rfl) (by kernel_rfl) HC.out rfl (fun x => ?_) ?_; rotate_left; (focus (simp [go_sem]; (try go_ints); first | done | (with_reducible rfl))); (simp only [Act.put, List.setIfInBounds_toArray, List.set_cons_succ, List.set_cons_zero]))
  refine wpAnyC_done (by kernel_rfl) (fun _ => ?_) _
  have hN : n2 + n4 + n6 + n8 ≤ 40 := by omega
  obtain ⟨N, hNN⟩ : ∃ N, N = n2 + n4 + n6 + n8 := ⟨_, rfl⟩
  have HOB := Lib.hid (show OwnB w9 w1.heap.size A9 N c9 (AuthP.body c) by rw [hNN]; exact HO9.out)
  rw [← hNN] at hN ⊢
  have hBw := HC.out.2.1
  have HBw := Lib.hid hBw
  have hMac := ref_mac A A9 n cp N c9 w9.heap.size key (AuthP.body c) w9 ((HS.out.below (hBw.mono hB)).more (Nat.le_trans hB hBw.size)) HOB.out.sl (Nat.le_refl _) (by omega) (by omega)
  rw [← HM.out, ← HCM.out] at hMac
  have HMac := Lib.hid hMac
  obtain ⟨BD, hBD⟩ : ∃ x, x = AuthP.body c := ⟨_, rfl⟩
  rw [← hBD] at HOB hbn HTok hbl
  clear hMac hNN HO9 HO7 HO5 HP8 HP6 HP4 HC HQ hBw HO2 HN2 HA hBD
  go_upto_region 4 with (first
    | (go_at_call 24; refine HMac.out.mono ?_; rintro e w10 ⟨rfl, hB10⟩; have HB10 := Lib.hid hB10; clear hB10; have HST := Lib.hid (boxed_store w10 C M HMl.out HCM.out))
    | (refine wpList_value (o := ⟨some 6, _, _, _, _, _⟩) (v := .pointer (some ⟨w10.heap.size, 0, none⟩)) (w' := w10.alloc (.cells dzeros 23)) rfl (by kernel_rfl) ?_)
    | (refine wpList_store_mid rfl 23 (.tmp 6) (.tmp 27) rfl w10.heap.size 0 C.toArray rfl rfl HST.out.1 HST.out.2.1 HST.out.2.2.1 ?_; rw [show (w10.alloc (.cells dzeros 23)).setCells w10.heap.size 0 C.toArray.toList = boxed32 w10 C from by rw [List.toList_toArray]; rfl]))
  obtain ⟨w11, hw11⟩ : ∃ w11, w11 = boxed32 w10 C := ⟨_, rfl⟩
  have hg11 : Grew w10 w11 := by rw [hw11]; exact boxed_grew w10 C
  have HA11 := Lib.hid (show ArrV w11 w10.heap.size (M.map b8) by rw [hw11, ← HCM.out]; exact HST.out.2.2.2.1)
  rw [← hw11]
  have hg911 := Grew.trans HB10.out hg11
  have HO11 := Lib.hid (HOB.out.below_all hg911)
  have HB11 := Lib.hid (HBw.out.trans (hg911.mono HBw.out.size))
  clear hw11 hg11 hg911 HST HB10 HMac HOB HBw
  have HX1 := Lib.hid (fun W (hW : Grew w11 W) => ref_hex A9 N c9 W.heap.size BD W (HO11.out.below_all hW).sl (Nat.le_refl _) (by omega))
  have HX2 := Lib.hid (fun W (hW : Grew w11 W) => ref_hex (some ⟨w10.heap.size, 0, none⟩) 32 32 W.heap.size M W ((HA11.out.grew hW).sl (n := 32) (c := 32) HMl.out (Nat.le_refl _) (by unfold maxLen; omega)) (Nat.le_refl _) (by omega))
  obtain ⟨X, hX⟩ : ∃ X, X = ShaP.hex BD := ⟨_, rfl⟩
  obtain ⟨Y, hY⟩ : ∃ Y, Y = ShaP.hex M := ⟨_, rfl⟩
  have hXl : X.length ≤ 80 := by rw [hX, ShaP.hex_len]; omega
  have hYl : Y.length ≤ 64 := by rw [hY, ShaP.hex_len, HMl.out]; omega
  rw [← hX] at HX1 HTok
  rw [← hY] at HX2 HTok
  clear hX hY
  refine wp_region_x [] (by kernel_rfl) (by kernel_rfl) (by kernel_rfl) ?_
  simp only [blank, List.foldl_nil]
  repeat (first
    | (refine wpX_value (v := ?_) rfl (by intros; simp) rfl rfl (fun x => ?_) ?_; rotate_left; (focus (simp [go_sem, ↓IntWalk.iteOmega]; (try go_ints); first | done | (with_reducible rfl))); (simp only [Act.put, List.setIfInBounds_toArray, List.set_cons_succ, List.set_cons_zero]))
    | (refine wpX_call (o := ⟨some 29, _, _, _, _, _⟩) (.string ⟨X.toArray⟩) _ _ rfl (by intros; simp) rfl rfl (fun _ => ?_) (fun w' hw' => HX1.out w' hw') ?_; (focus (simp [go_sem]; done)); (simp only [Act.put, List.setIfInBounds_toArray, List.set_cons_succ, List.set_cons_zero]))
    | (refine wpX_call (o := ⟨some 33, _, _, _, _, _⟩) (.string ⟨Y.toArray⟩) _ _ rfl (by intros; simp) rfl rfl (fun _ => ?_) (fun w' hw' => HX2.out w' hw') ?_; (focus (simp [go_sem]; done)); (simp only [Act.put, List.setIfInBounds_toArray, List.set_cons_succ, List.set_cons_zero])))
  (refine wpX_nil ?_; intro xb wx hxg xl; obtain ⟨xf, xe⟩ := LikeAll.end_ xl; clear xl; subst xe; simp only [fill, List.foldl_nil, Act.put])
  have HBx := Lib.hid (HB11.out.trans (hxg.mono HB11.out.size))
  clear hxg
  go_wp2_with fail
  go_ret
  refine ⟨?_, HBx.out⟩
  rw [HTok.out, ← tok_string]
  rfl
end Go.Proofs.Ytohgkadbajmphaa
