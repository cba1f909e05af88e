/- Whole numbers owned; the walks of erase.Missing and erase.fits. -/
import Derived.Test.YtknodcaknopcnaaEra
import Derived.Test.YtknodcaknopcnaaRowF
import Derived.Test.YtknodcaknopcnaaRowB
import Derived.Test.YtknodcaknopcnaaOpen
import Derived.Test.YtknodcaknopcnaaIdx
namespace Go.Proofs.Ytknodcaknopcnaa
open Go.RowKit
set_option linter.unusedVariables false
set_option linter.unusedSimpArgs false
set_option maxRecDepth 100000
set_option maxHeartbeats 1000000

/-- whole numbers that the call owns -/
def OwnN (w : World) (base : Nat) (v : Value) (l : List Int) : Prop := (∀ x ∈ l, -9223372036854775808 ≤ x ∧ x ≤ 9223372036854775807) ∧ w.ownsRow base 3 1 v l.length (l.map i64v)
theorem OwnN.nil (w : World) (base : Nat) : OwnN w base (.slice none 0 0) [] := ⟨fun x hx => (by cases hx), World.ownsRow_nil _ _ _ _⟩
theorem OwnN.up {w w1 : World} {base : Nat} {v : Value} {l : List Int} (h : OwnN w base v l) (hb : Below w.heap.size w w1) : OwnN w1 base v l := ⟨h.1, row_up h.2 hb⟩
theorem OwnN.ge {w : World} {base : Nat} {v : Value} {l : List Int} (h : OwnN w base v l) : ∀ g, v.ownBlock = some g → base ≤ g := fun g hg => (h.2.lt g hg).1
theorem OwnN.ints {w : World} {base : Nat} {v : Value} {l : List Int} (h : OwnN w base v l) : Ints w v l := by
  have hA := h.2
  rcases h.2.2 with ⟨e, hn⟩ | ⟨g, cap, cur, e, hb, hg, h1, h2, _⟩
  · subst e
    exact ⟨none, 0, by rw [hn], by omega, by simp [maxLen], fun _ => rfl, h.1, .inl (by have := List.eq_nil_of_length_eq_zero hn; rw [this]; rfl)⟩
  · subst e
    exact ⟨some ⟨g, 0, none⟩, cap, rfl, h1, h2, (fun e => by cases e), h.1, At.of_own hA⟩
theorem i64v_one (l : List Int) : ∀ u ∈ l.map i64v, u.oneCell' = true := by
  intro u hu
  obtain ⟨x, _, rfl⟩ := List.mem_map.1 hu
  rfl
/-- append(numbers, numbers...) -/
theorem wpList_append_ints {P : Program} {w : World} {ops : Array Oper} {rest : List Oper} {o : Oper} {a : Act} {Q : Exit → Act → World → Prop} (hgd : o.guard = none) (s x : Operand) (t : TypeId)
    (ho : o.op = .call { callee := .builtin .append, args := #[s, x], argTypes := #[t, t] })
    (i : TypeInfo) (ht : P.underlying t = some (.slice 3)) (hi : P.info? 3 = some i) (hz : i.zero = some (.int .i64 0)) (hsize : i.size = 1) (hby : i.bytes = 8)
    (base : Nat) (v : Value) (l : List Int) (hs : a.eval s = v) (hown : OwnN w base v l) (xv : Value) (m : List Int) (hx : a.eval x = xv) (hsrc : Ints w xv m)
    (h63 : l.length + m.length ≤ 1000000) (hbase : base ≤ w.heap.size)
    (h : ∀ v' w', OwnN w' base v' (l ++ m) → w.grownBy w' v.ownBlock → wpList P ops Q rest (a.put o.dst v') w') : wpList P ops Q (o :: rest) a w := by
  obtain ⟨ao, cap, rfl, h1, h2, h0, h3, hA⟩ := hsrc
  refine wpList_append_at hgd s x t ho base 3 i (.int .i64 0) 1 8 ht hi hz hsize hby rfl (by decide) v l.length (l.map i64v) hs hown.2 ao m.length cap (m.map i64v) hx h0 h1 (by simp) hA (i64v_one _) (by simp only [maxLen]; omega) (by omega) hbase ?_
  intro v' w' ho hg _
  refine h v' w' ⟨?_, ?_⟩ hg
  · intro y hy
    rcases List.mem_append.1 hy with h5 | h5
    · exact hown.1 y h5
    · exact h3 y h5
  · rw [List.length_append, List.map_append]; exact ho
theorem Ints.shapeI {w : World} {v : Value} {l : List Int} (h : Ints w v l) : ∃ ao cap, v = .slice ao l.length cap ∧ l.length ≤ cap ∧ cap ≤ 9223372036854775807 := by
  obtain ⟨ao, cap, rfl, h1, h2, _⟩ := h
  exact ⟨ao, cap, rfl, h1, h2⟩

def missA (ls : List (List Nat)) (k : Nat) : List Int := ((List.range k).filter (fun i => decide ((ls.getD i []).length = 0))).map (fun i : Nat => (i : Int))
def missI (ls : List (List Nat)) : List Int := (Y.missL ls).map (fun i : Nat => (i : Int))
theorem missA_end (ls : List (List Nat)) : missA ls ls.length = missI ls := rfl
theorem missA_len (ls : List (List Nat)) (k : Nat) : (missA ls k).length ≤ k := by
  unfold missA
  rw [List.length_map]
  exact Nat.le_trans (List.length_filter_le _ _) (by simp)
theorem missA_yes {ls : List (List Nat)} {k : Nat} {p : List Nat} (hp : ls[k]? = some p) (h : p.length = 0) : missA ls (k + 1) = missA ls k ++ [(k : Int)] := by
  unfold missA
  rw [List.range_succ, List.filter_append, List.map_append]
  have e : ls.getD k [] = p := by simp [List.getD, hp]
  rw [List.filter_cons_of_pos (by rw [e, h]; rfl)]
  rfl
theorem missA_no {ls : List (List Nat)} {k : Nat} {p : List Nat} (hp : ls[k]? = some p) (h : p.length ≠ 0) : missA ls (k + 1) = missA ls k := by
  unfold missA
  rw [List.range_succ, List.filter_append, List.map_append]
  have e : ls.getD k [] = p := by simp [List.getD, hp]
  rw [List.filter_cons_of_neg (by rw [e]; simpa using h)]
  simp
theorem missing_any (v : Value) (ls : List (List Nat)) (w : World) (h : Parts w v ls) (hl : ls.length ≤ 100000) :
    Calls Try.prog 14 #[v] w fun e w' => ∃ v', e = .returned v' ∧ OwnN w' w.heap.size v' (missI ls) ∧ Below w.heap.size w w' := by
  obtain ⟨j0, hj, hy0, hy1, hy2⟩ := info_parts int_info
  have h' := Lib.hid h
  obtain ⟨ao, cap, rfl, hc1, hc2⟩ := h.shape
  obtain ⟨n, hn⟩ : ∃ n, n = ls.length := ⟨_, rfl⟩
  have HN := Lib.hid hn
  have HL := Lib.hid hl
  rw [← hn] at h' hc1 ⊢
  clear h hn hl
  go_enter Try.func14, Try.ntmps14
  go_wp2
  go_loopw [3, 8] (fun v i w' => ∃ k : Nat, k ≤ n ∧ i = .int .i64 k ∧ Hid (OwnN w' w.heap.size v (missA ls k)) ∧ Below w.heap.size w w') (fun _ i _ => n - (intOf i).toNat)
  case atStart => exact ⟨0, Nat.zero_le _, rfl, Lib.hid (OwnN.nil _ _), belR _⟩
  case round =>
    obtain ⟨k, hk, rfl, hO, hB⟩ := hrel
    by_cases hlt : k < n
    · obtain ⟨b, off, c, p, rfl, hcc, hp, hy⟩ := (h'.out.up hB).get (k := k) (by rw [← HN.out]; exact hlt)
      obtain ⟨ac, cc, rfl, _, _⟩ := hy.shape
      have hws := hB.size
      by_cases hz : p.length = 0
      · have HZ := Lib.hid hz
        have hq1 : ((p.length : Int) == 0) = true := by rw [beq_iff_eq]; omega
        clear hz hy
        have hlk : Hid ((missA ls k).length ≤ 100000) := Lib.hid (by have := missA_len ls k; have := HL.out; have := HN.out; omega)
        have hk8 : -9223372036854775808 ≤ (k : Int) ∧ (k : Int) ≤ 9223372036854775807 := by have := HL.out; have := HN.out; omega
        have HK8 := Lib.hid hk8
        clear hk8
        go_wp2_with (at_builtin; go_loud (refine wpList_append_ints rfl _ _ 31 rfl j0 Try.underlying31 hj hy0 hy1 hy2 w.heap.size _ _ rfl (hO.out.up (belA1 (belR _))) _ [(k : Int)] rfl (Ints.lit _ _ _ _ rfl rfl rfl (fun x hx => by rw [List.mem_singleton.1 hx]; exact HK8.out) (by simp)) (by have := hlk.out; simp only [List.length_singleton]; omega) (by simp; omega) ?_); intro v' w1 hown hgrow)
        go_roundw
        case rel => exact ⟨k + 1, by omega, by go_num, Lib.hid (by rw [missA_yes hp.out HZ.out]; exact hown), belG (belA1 hB) hgrow (fun g hg => hO.out.ge g hg)⟩
        case measure => simp [intOf]; omega
      · have HZ := Lib.hid hz
        have hq1 : ((p.length : Int) == 0) = false := by rw [beq_eq_false_iff_ne]; omega
        clear hz hy
        go_wp2
        go_roundw
        case rel => exact ⟨k + 1, by omega, by go_num, Lib.hid (by rw [missA_no hp.out HZ.out]; exact hO.out), hB⟩
        case measure => simp [intOf]; omega
    · have e1 : k = n := by omega
      subst e1
      rw [show missA ls k = missI ls by rw [HN.out]; rfl] at hO
      go_wp2
      go_ret
      exact ⟨_, rfl, hO.out, hB⟩
theorem fits_any (s : Int) (v : Value) (ls : List (List Nat)) (w : World) (h : Parts w v ls) :
    Calls Try.prog 35 #[.int .i64 s, v] w fun e w' => e = .returned (.bool (Y.fitsB s ls)) ∧ Below w.heap.size w w' := by
  go_enter Try.func35, Try.ntmps35
  go_wp2_with fail
  refine Calls.mono (cunfit_any s w.heap.size v ls _ (h.up (belA1 (belR _))) (by simp) (by simp)) ?_
  rintro e w1 ⟨rfl, D⟩
  go_wp2
  go_ret
  refine ⟨ret_bool ?_, belT (belA1 (belR _)) (D.below _)⟩
  unfold Y.fitsB unfitB
  rw [Bool.eq_iff_iff, Bool.not_eq_true', List.any_eq_false, List.all_eq_true]
  constructor
  · intro h p hp
    have := h p hp
    rw [decide_eq_true_iff] at this ⊢
    omega
  · intro h p hp
    have := h p hp
    rw [decide_eq_true_iff] at this ⊢
    omega
end Go.Proofs.Ytknodcaknopcnaa
