/- What stands behind a log.Put; the example of chapter 12. -/
import Derived.Test.YtenjpldinnbcbaaLgG
namespace Go.Proofs.Ytenjpldinnbcbaa
open Go.RowKit C
set_option linter.unusedVariables false
set_option linter.unusedSimpArgs false
set_option maxRecDepth 100000
set_option maxHeartbeats 1000000

theorem ris_mark {ls : List (List Nat)} (h : ris ls = true) : (ls.getD 0 [])[0]? = some 87 := by
  obtain ⟨h1, h2, h3⟩ := (ris_iff ls).1 h
  have h4 := renc_four (rnum ls) (rlist ls) ((rok_iff _ _).1 h2).2.1
  rw [h3] at h4
  have : ((ls.getD 0 []).take 4)[0]? = some 87 := by rw [h4]; rfl
  rwa [List.getElem?_take_of_lt (by decide)] at this
namespace B
theorem rows4_zeros {b : Bn} {d : Nat} (h : lookB b d 2 = List.replicate 32 0) : ris (rows4 b d 4) = false := by
  cases hr : ris (rows4 b d 4) with
  | false => rfl
  | true =>
    have hm := ris_mark hr
    have e : (rows4 b d 4).getD 0 [] = rd b d 0 := rfl
    rw [e] at hm
    unfold rd at hm
    split at hm
    · cases hm
    · rw [show 2 + 0 = 2 from rfl, h] at hm; simp at hm
theorem bestR_none {b : Bn} : ∀ {T : List Nat}, (∀ d ∈ T, ris (rows4 b d 4) = false) → bestR b T = (0, []) := by
  intro T h
  unfold bestR
  induction T with
  | nil => rfl
  | cons d T ih =>
    rw [List.foldl_cons]
    have : stR b (0, []) d = (0, []) := by unfold stR; rw [if_neg (fun hh => by rw [h d (List.mem_cons_self ..)] at hh; cases hh.1)]
    rw [this]
    exact ih (fun e he => h e (List.mem_cons_of_mem _ he))
end B
attribute [local irreducible] Go.Calls Byt Own Parts PA BA Bools OwnD OwnT OwnZ Items ItemsF
theorem wakes12_any (w : World) : Calls Try.prog 31 #[] w fun e w' => e = .returned (.bool true) ∧ Below w.heap.size w w' := by
  go_enter Try.func31, Try.ntmps31
  go_wp2_with fail
  refine Calls.mono (bnew_any w 3 (by decide) (by decide)) ?_
  rintro r w1 ⟨rfl, ⟨lv, hs, I1⟩, b1⟩
  have hlt1 := I1.lts
  have hsz1 : w.heap.size < w1.heap.size := I1.lt
  have T1 := (OwnT.lit w1 #[.bool true, .bool true, .bool true] [true, true, true] (n := 3) (g := w1.heap.size) rfl rfl rfl (by decide)).bools
  have HG := lget_any _ _ _ _ _ _ _ _ (I1.up (belA1 (o1 := .cells #[.bool true, .bool true, .bool true] 4) (belR _))) (B.Up.fresh 3).lv (by rw [B.fresh_len]; decide) T1
  rw [B.bestR_none (fun d hd => B.rows4_zeros (B.fresh_look 3 d 2 (by decide)))] at HG
  have HG := Lib.hid HG
  have I1 := Lib.hid I1
  go_wp2_with fail
  refine Calls.mono HG.out ?_
  rintro r w2 ⟨v, rfl, IF, b2⟩
  obtain ⟨ai, ci, rfl, _, _, _⟩ := IF.items.shape
  have B2 := belT (belA1 (belR w1)) b2
  have BX := belT (belT B2 (belA1 (o1 := .cells #[.int .i64 0, .slice ai ([] : List RI).length ci] 59) (belR w2))) (belA1 (o1 := .cells #[.bool true] 4) (belR _))
  have TX := (OwnT.lit (w2.alloc (.cells #[.int .i64 0, .slice ai ([] : List RI).length ci] 59)) #[.bool true] [true] (n := 1) (g := w2.heap.size + 1) (by simp) rfl rfl (by decide)).ba (S := ofB w.heap.size lv hs) (fun y hy => by have := hlt1 y hy; have := B2.size; simp; omega)
  have HP := lput_yes _ _ _ _ _ _ _ _ 1 (.slice none 0 0) [] (I1.out.up BX) (B.Up.fresh 3).pw (by have := BX.size; omega) TX (Items.nil _) rok_one (by rw [B.fresh_len]; decide) (B.fresh_p 3) (B.fresh_w 3)
  have HP := Lib.hid HP
  have hl := I1.out.ges
  clear B2 TX IF
  go_wp2_with fail
  refine Calls.mono HP.out ?_
  rintro r w3 ⟨rfl, hs3, I3, F3, q3⟩
  have BE := Fr.below (belT b1 BX) F3 (by have := (belT b1 BX).size; omega) hl
  clear I3 F3 q3
  go_wp2
  go_ret
  exact ⟨rfl, BE⟩
end Go.Proofs.Ytenjpldinnbcbaa
