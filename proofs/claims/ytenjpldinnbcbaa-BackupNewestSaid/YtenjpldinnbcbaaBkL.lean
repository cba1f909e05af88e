/- What is found behind a Put, in plain terms. -/
import Derived.Test.YtenjpldinnbcbaaWk19
import Derived.Test.YtenjpldinnbcbaaSameR
namespace Go.Proofs.Ytenjpldinnbcbaa
open Go.RowKit
set_option linter.unusedVariables false
set_option linter.unusedSimpArgs false
set_option maxRecDepth 100000
namespace B
theorem headL_byte {e x : Nat} {data : List (List Nat)} : ∀ y ∈ headL e x data, y < 256 := by
  unfold headL
  refine C.sealed_byte (fun c hc => ?_)
  rcases List.mem_append.1 hc with h | h
  · simp only [List.mem_cons, List.not_mem_nil, or_false] at h
    omega
  · rw [List.eq_of_mem_replicate h]; decide
theorem headL_at (e x : Nat) (data : List (List Nat)) {k : Nat} (hk : k < 8) : (headL e x data)[k]? = ([87, 66, 65, 75, e / 256 % 256, e % 256, x % 256, data.length % 256] : List Nat)[k]? := by
  unfold headL C.sealed
  rw [List.getElem?_append_left (by simp; omega), List.getElem?_take, if_pos (by omega), List.getElem?_append_left (by simpa using hk)]
theorem headL_inj {e x e' x' : Nat} {data data' : List (List Nat)} (he : e < 65536) (hx : x ≤ 16) (he' : e' < 65536) (hx' : x' ≤ 16) (h : headL e x data = headL e' x' data') : e = e' ∧ x = x' := by
  have key : ∀ k, k < 8 → ([87, 66, 65, 75, e / 256 % 256, e % 256, x % 256, data.length % 256] : List Nat)[k]? = ([87, 66, 65, 75, e' / 256 % 256, e' % 256, x' % 256, data'.length % 256] : List Nat)[k]? := fun k hk => by
    rw [← headL_at e x data hk, ← headL_at e' x' data' hk, h]
  have k4 := key 4 (by decide)
  have k5 := key 5 (by decide)
  have k6 := key 6 (by decide)
  simp at k4 k5 k6
  omega
section
variable {b : Bn} {lv : List Bool} {e x : Nat} {data : List (List Nat)}
theorem put_all (hd : ∀ p ∈ data, p.length = 32) (h8 : ∀ p ∈ data, ∀ y ∈ p, y < 256) : (∀ p ∈ headL e x data :: data, p.length = 32) ∧ ∀ p ∈ headL e x data :: data, ∀ y ∈ p, y < 256 := by
  refine ⟨fun p hp => ?_, fun p hp => ?_⟩
  · rcases List.mem_cons.1 hp with rfl | hp
    · exact headL_len _ _ _
    · exact hd p hp
  · rcases List.mem_cons.1 hp with rfl | hp
    · exact headL_byte
    · exact h8 p hp
theorem put_up (h : Up b) (hd : ∀ p ∈ data, p.length = 32) (h8 : ∀ p ∈ data, ∀ y ∈ p, y < 256) (hn : data.length ≤ 28) : Up (putB b lv (headL e x data :: data)) ∧ (putB b lv (headL e x data :: data)).ds.length = b.ds.length ∧ (putB b lv (headL e x data :: data)).writes = b.writes + (cntL lv b.ds.length * (data.length + 1) : Nat) := by
  obtain ⟨a1, a2⟩ := put_all (e := e) (x := x) hd h8
  obtain ⟨u, w, l, _⟩ := putB_spec h lv a1 a2 (by simp; omega)
  exact ⟨u, l, w⟩
theorem put_look (h : Up b) (hd : ∀ p ∈ data, p.length = 32) (h8 : ∀ p ∈ data, ∀ y ∈ p, y < 256) (hn : data.length ≤ 28) {i a : Nat} (hi : i < b.ds.length) (ha : a < 52) :
    lookB (putB b lv (headL e x data :: data)) i a = if live1 lv i ∧ 6 ≤ a ∧ a < 7 + data.length then (headL e x data :: data).getD (a - 6) [] else lookB b i a := by
  obtain ⟨a1, a2⟩ := put_all (e := e) (x := x) hd h8
  obtain ⟨_, _, _, k⟩ := putB_spec h lv a1 a2 (by simp; omega)
  have := k i a hi ha
  unfold lookB
  rw [this]
  have e1 : 6 + (headL e x data :: data).length = 7 + data.length := by simp; omega
  rw [e1]
theorem Up.failB (h : Up b) {i : Nat} (hi : i < b.ds.length) : failB b i = false := by
  unfold B.failB
  rw [show b.ds.getD i D.blank = b.ds[i] by simp [List.getD, hi]]
  exact h.fine _ (List.getElem_mem hi)
theorem put_live (h : Up b) (hd : ∀ p ∈ data, p.length = 32) (h8 : ∀ p ∈ data, ∀ y ∈ p, y < 256) (hn : data.length ≤ 28) {i : Nat} (hi : i < b.ds.length) (hl : live1 lv i = true) :
    lookB (putB b lv (headL e x data :: data)) i 6 = headL e x data ∧ manyB (putB b lv (headL e x data :: data)) i = data.length ∧ ofL (putB b lv (headL e x data :: data)) i = data ∧ ofOk (putB b lv (headL e x data :: data)) i e x = true := by
  have h6 : lookB (putB b lv (headL e x data :: data)) i 6 = headL e x data := by
    rw [put_look h hd h8 hn hi (by decide), if_pos ⟨hl, by omega, by omega⟩]; rfl
  have hm : manyB (putB b lv (headL e x data :: data)) i = data.length := by
    unfold manyB
    rw [h6, List.getD, headL_at e x data (by decide)]
    simp
    omega
  have ho : ofL (putB b lv (headL e x data :: data)) i = data := by
    unfold ofL
    rw [hm]
    refine List.ext_getElem (by simp) fun k h1 h2 => ?_
    have hk : k < data.length := by simpa using h1
    rw [List.getElem_map, List.getElem_range, put_look h hd h8 hn hi (by omega), if_pos ⟨hl, by omega, by omega⟩]
    rw [show 7 + k - 6 = k + 1 by omega]
    simp [List.getD, hk]
  refine ⟨h6, hm, ho, ?_⟩
  obtain ⟨u, ul, _⟩ := put_up (lv := lv) (e := e) (x := x) h hd h8 hn
  unfold ofOk
  rw [u.failB (by rw [ul]; exact hi), hm, ho, h6, decide_eq_true hn, decide_eq_true rfl]
  rfl
theorem put_other (h : Up b) (hd : ∀ p ∈ data, p.length = 32) (h8 : ∀ p ∈ data, ∀ y ∈ p, y < 256) (hn : data.length ≤ 28) {i : Nat} (hi : i < b.ds.length) (hl : live1 lv i = true) {e' x' : Nat} (he : e < 65536) (hx : x ≤ 16) (he' : e' < 65536) (hx' : x' ≤ 16) (hne : ¬ (e = e' ∧ x = x')) :
    ofOk (putB b lv (headL e x data :: data)) i e' x' = false := by
  obtain ⟨h6, _, ho, _⟩ := put_live (e := e) (x := x) h hd h8 hn hi hl
  unfold ofOk
  rw [h6, ho, decide_eq_false (fun e2 => hne (headL_inj he hx he' hx' e2))]
  simp
theorem put_dead (h : Up b) (hd : ∀ p ∈ data, p.length = 32) (h8 : ∀ p ∈ data, ∀ y ∈ p, y < 256) (hn : data.length ≤ 28) {i : Nat} (hi : i < b.ds.length) (hl : live1 lv i = false) (e' x' : Nat) :
    ofOk (putB b lv (headL e x data :: data)) i e' x' = ofOk b i e' x' ∧ (ofOk b i e' x' = true → ofL (putB b lv (headL e x data :: data)) i = ofL b i) := by
  have hlk : ∀ a, a < 52 → lookB (putB b lv (headL e x data :: data)) i a = lookB b i a := fun a ha => by
    rw [put_look h hd h8 hn hi ha, if_neg (by rw [hl]; simp)]
  have hm : manyB (putB b lv (headL e x data :: data)) i = manyB b i := by unfold manyB; rw [hlk 6 (by decide)]
  obtain ⟨u, ul, _⟩ := put_up (lv := lv) (e := e) (x := x) h hd h8 hn
  have hf : B.failB (putB b lv (headL e x data :: data)) i = B.failB b i := by rw [u.failB (by rw [ul]; exact hi), h.failB hi]
  by_cases h28 : manyB b i ≤ 28
  · have ho : ofL (putB b lv (headL e x data :: data)) i = ofL b i := by
      unfold ofL
      rw [hm]
      refine List.map_congr_left fun a ha => hlk _ ?_
      have := List.mem_range.1 ha
      omega
    refine ⟨?_, fun _ => ho⟩
    unfold ofOk
    rw [hf, hm, ho, hlk 6 (by decide)]
  · have e1 : ofOk b i e' x' = false := by unfold ofOk; rw [decide_eq_false h28]; simp
    have e2 : ofOk (putB b lv (headL e x data :: data)) i e' x' = false := by unfold ofOk; rw [hm, decide_eq_false h28]; simp
    rw [e1, e2]
    exact ⟨rfl, fun h => by cases h⟩
end
theorem getO_some {b : Bn} {lv : List Bool} {e x n i : Nat} (hi : i < n) (h : live1 lv i = true) (h1 : ofOk b i e x = true) (h0 : ∀ j, j < i → (live1 lv j && ofOk b j e x) = false) : getO b lv e x n = some i :=
  getO_succ_yes (getO_none i h0) (by rw [h, h1]; rfl) hi
end B
end Go.Proofs.Ytenjpldinnbcbaa
