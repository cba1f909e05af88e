/- The walk of bench's Crash. -/
import Derived.Test.YtggljcdkiaggeaaBenchY
namespace Go.Proofs.Ytggljcdkiaggeaa
open Go.RowKit
set_option linter.unusedVariables false
set_option linter.unusedSimpArgs false
set_option maxRecDepth 100000
set_option maxHeartbeats 1000000

theorem Bools.takeI {w : World} {ao : Option Addr} {n cap k : Nat} {l : List Bool} (h : Bools w (.slice ao n cap) l) (hk : k ≤ n) : Bools w (.slice ao k cap) (l.take k) := by
  obtain ⟨ao', cap', e, h1, h2, h0, h4⟩ := h
  cases e
  have e : k = (l.take k).length := by rw [List.length_take]; omega
  exact ⟨ao, cap, by rw [← e], by omega, h2, h0, by rw [List.map_take]; exact h4.take k⟩
theorem Bools.dropI {w : World} {ao : Option Addr} {n cap k : Nat} {l : List Bool} (h : Bools w (.slice ao n cap) l) (hk : k ≤ n) : Bools w (.slice (if cap = k then ao else ao.map (·.add k)) (n - k) (cap - k)) (l.drop k) := by
  obtain ⟨ao', cap', e, h1, h2, h0, h4⟩ := h
  cases e
  have e : l.length - k = (l.drop k).length := by rw [List.length_drop]
  by_cases hc : cap = k
  · rw [if_pos hc]
    have hl : l.drop k = [] := List.drop_eq_nil_of_le (by omega)
    refine ⟨ao, cap - k, by rw [e], by omega, by omega, (fun ha => by have := h0 ha; omega), .inl (by rw [hl]; rfl)⟩
  · rw [if_neg hc]
    cases ao with
    | none =>
      have := h0 rfl
      omega
    | some a =>
      by_cases hn : l.length = k
      · have hl : l.drop k = [] := List.drop_eq_nil_of_le (by omega)
        exact ⟨_, cap - k, by rw [e], by omega, by omega, (fun ha => by cases ha), .inl (by rw [hl]; rfl)⟩
      · rcases h4 with h4 | ⟨b, off, e2, hlt, hc2⟩
        · have : l = [] := by simpa using h4
          subst this
          simp at hn hk
          omega
        · cases e2
          refine ⟨some ((⟨b, off, none⟩ : Addr).add k), cap - k, by rw [e]; rfl, by omega, by omega, (fun ha => by cases ha), ?_⟩
          rw [Addr.add_mid, List.map_drop]
          exact At.drop (.inr ⟨b, off, rfl, hlt, hc2⟩) k
theorem Bools.blk {ao : Option Addr} {n cap k : Nat} {y : Nat} (h : (Value.slice (if cap = k then ao else ao.map (·.add k)) (n - k) (cap - k)).ownBlock = some y) : (Value.slice ao n cap).ownBlock = some y := by
  by_cases hc : cap = k
  · rw [if_pos hc] at h
    cases ao <;> exact h
  · rw [if_neg hc] at h
    cases ao with
    | none => exact h
    | some a =>
      have e : (a.add k).block = a.block := by unfold Addr.add; split <;> rfl
      have h2 : some (a.add k).block = some y := h
      rw [e] at h2
      exact h2
theorem Bools.frN {S : Nat → Prop} {w w' : World} {v : Value} {l : List Bool} (h : Bools w v l) (k : Fr S w w') (hb : l ≠ [] → ∀ g, v.ownBlock = some g → ¬ S g) : Bools w' v l := by
  by_cases hn : l = []
  · obtain ⟨ao, cap, e, h1, h2, h0, _⟩ := h
    exact ⟨ao, cap, e, h1, h2, h0, .inl (by rw [hn]; rfl)⟩
  · exact h.fr k (hb hn)
namespace B
theorem crashAll_len : ∀ (ds : List D.Dk) (ks : List Bool), (crashAll ds ks).length = ds.length
  | [], _ => rfl
  | d :: ds, ks => by unfold crashAll; rw [List.length_cons, List.length_cons, crashAll_len ds]
end B
/-- the first k disks have crashed -/
structure CrR (b : B.Bn) (ks : List Bool) (k : Nat) (ds' : List D.Dk) (ks' : List Bool) : Prop where
  le : k ≤ b.ds.length
  len : ds'.length = b.ds.length
  all : B.crashAll b.ds ks = ds'.take k ++ B.crashAll (b.ds.drop k) ks'
  rest : ds'.drop k = b.ds.drop k
  sub : ks' ≠ [] → ks ≠ []
theorem CrR.start (b : B.Bn) (ks : List Bool) : CrR b ks 0 b.ds ks := ⟨Nat.zero_le _, rfl, by simp, rfl, id⟩
theorem CrR.get {b : B.Bn} {ks ks' : List Bool} {k : Nat} {ds' : List D.Dk} (h : CrR b ks k ds' ks') {d : D.Dk} (hd : ds'[k]? = some d) : b.ds[k]? = some d := by
  have h1 := congrArg (fun l => l[0]?) h.rest
  simp only [List.getElem?_drop, Nat.add_zero] at h1
  rw [← h1]; exact hd
theorem CrR.step {b : B.Bn} {ks ks' : List Bool} {k : Nat} {ds' : List D.Dk} (h : CrR b ks k ds' ks') {d : D.Dk} (hd : ds'[k]? = some d) {n : Nat} (hn : n = min d.p.length ks'.length) :
    CrR b ks (k + 1) (ds'.set k (D.crash d (ks'.take n))) (ks'.drop n) := by
  have hb := h.get hd
  have hk : k < b.ds.length := (List.getElem?_eq_some_iff.1 hb).1
  have hk' : k < ds'.length := by rw [h.len]; exact hk
  refine ⟨hk, by rw [List.length_set]; exact h.len, ?_, ?_, fun h1 h2 => ?_⟩
  · rw [h.all, take_succ_get (c := D.crash d (ks'.take n)) (by rw [List.getElem?_set_self hk'])]
    have e1 : (ds'.set k (D.crash d (ks'.take n))).take k = ds'.take k := by rw [List.take_set_of_le (Nat.le_refl _)]
    rw [e1, List.append_assoc]
    congr 1
    have e2 : b.ds.drop k = d :: b.ds.drop (k + 1) := by
      rw [List.drop_eq_getElem_cons hk]
      congr 1
      exact Option.some.inj ((List.getElem?_eq_getElem hk).symm.trans hb)
    rw [e2, show B.crashAll (d :: b.ds.drop (k + 1)) ks' = D.crash d (ks'.take n) :: B.crashAll (b.ds.drop (k + 1)) (ks'.drop n) from by rw [hn]; rfl]
    rfl
  · rw [List.drop_set_of_lt (by omega)]
    have := congrArg (List.drop 1) h.rest
    rwa [List.drop_drop, List.drop_drop] at this
  · refine h.sub (fun e => h1 ?_) h2
    rw [e]; simp
theorem CrR.done {b : B.Bn} {ks ks' : List Bool} {k : Nat} {ds' : List D.Dk} (h : CrR b ks k ds' ks') (hk : k = b.ds.length) : ds' = B.crashAll b.ds ks := by
  have h1 := h.all
  have h2 := h.len
  rw [hk, List.drop_eq_nil_of_le (Nat.le_refl _), ← h2, List.take_length] at h1
  unfold B.crashAll at h1 ⊢
  simpa using h1.symm
theorem bcrash_any (w : World) (base g : Nat) (lv : Value) (hs : List (Nat × Value)) (b : B.Bn) (kv : Value) (ks : List Bool) (h : IsBench w base g lv hs b) (hks : Bools w kv ks) (hap : ks ≠ [] → ∀ y, kv.ownBlock = some y → ¬ ofB g lv hs y) :
    Calls Try.prog 39 #[.pointer (some ⟨g, 0, none⟩), kv] w fun e w' => e = .returned (.tuple #[]) ∧ ∃ hs', IsBench w' base g lv hs' (B.crash b ks) ∧ Fr (ofB g lv hs) w w' ∧ ∀ y, ofB g lv hs' y → ofB g lv hs y ∨ w.heap.size ≤ y := by
  have hc := h.cell.2.2.2
  have HH := Lib.hid h
  have HLT : Hid (ks ≠ [] → ∀ y, kv.ownBlock = some y → y < w.heap.size) := fun hn y hy => Bools.lt hks hn y hy
  have HAP := Lib.hid hap
  obtain ⟨ao, cap, rfl, hcap, _⟩ := h.shape
  have HR0 : Hid (∃ hs' ds' ks', IsBench w base g (.slice ao b.ds.length cap) hs' { b with ds := ds' } ∧ CrR b ks 0 ds' ks' ∧ Bools w kv ks' ∧ (∀ y, kv.ownBlock = some y → kv.ownBlock = some y) ∧ Fr (ofB g (.slice ao b.ds.length cap) hs) w w ∧ ∀ y, ofB g (.slice ao b.ds.length cap) hs' y → ofB g (.slice ao b.ds.length cap) hs y ∨ w.heap.size ≤ y) :=
    ⟨hs, b.ds, ks, h, CrR.start b ks, hks, fun y hy => hy, Fr.refl _ _, fun y hy => .inl hy⟩
  clear h hks hap
  go_enter Try.func39, Try.ntmps39
  go_wp2
  go_loopw [1, 12] (fun kv' i w' => ∃ k : Nat, k ≤ b.ds.length ∧ i = .int .i64 k ∧ Hid (∃ hs' ds' ks', IsBench w' base g (.slice ao b.ds.length cap) hs' { b with ds := ds' } ∧ CrR b ks k ds' ks' ∧ Bools w' kv' ks' ∧ (∀ y, kv'.ownBlock = some y → kv.ownBlock = some y) ∧ Fr (ofB g (.slice ao b.ds.length cap) hs) w w' ∧ ∀ y, ofB g (.slice ao b.ds.length cap) hs' y → ofB g (.slice ao b.ds.length cap) hs y ∨ w.heap.size ≤ y)) (fun _ i _ => b.ds.length - (intOf i).toNat)
  case atStart => exact ⟨0, Nat.zero_le _, rfl, HR0⟩
  case round =>
    clear HR0
    obtain ⟨k, hk, rfl, HR⟩ := hrel
    obtain ⟨hs', ds', ks', H1, R1, K1, hbk, F1, q1⟩ := HR.out
    clear HR
    have hlen' := R1.len
    by_cases hlt : k < b.ds.length
    · obtain ⟨aok, capk, rfl, hr1, hr2⟩ := Bools.shape K1
      have H2 : IsBench wr base g (.slice ao b.ds.length cap) hs' { b with ds := ds' } := H1
      obtain ⟨bl, y, d, rfl, hcell, hky, hdk, hD⟩ := H2.get (i := k) (by show k < ds'.length; omega)
      have HD := Lib.hid hD
      have HK := Lib.hid hky
      have HDK : Hid (ds'[k]? = some d) := hdk
      have H1h := Lib.hid H1
      have R1h := Lib.hid R1
      have K1h := Lib.hid K1
      have F1h := Lib.hid F1
      have q1h := Lib.hid q1
      have hbkh := Lib.hid hbk
      clear hD hky hdk H1 H2 R1 K1 F1 q1 hbk hlen'
      obtain ⟨n, hn⟩ : ∃ n, n = min d.p.length ks'.length := ⟨_, rfl⟩
      have HN := Lib.hid hn
      have hn1 : n ≤ d.p.length := by omega
      have hn2 : n ≤ ks'.length := by omega
      have hnc : n ≤ capk := by omega
      have HNA : Hid (∀ u, (Value.slice aok ks'.length capk).ownBlock = some u → ks' ≠ [] → ¬ ofB g (.slice (some ⟨bl, 0, none⟩) b.ds.length cap) hs' u) := fun u hu hne hof => by
        rcases q1h.out u hof with h9 | h9
        · exact HAP.out (R1h.out.sub hne) u (hbkh.out u hu) h9
        · have := HLT.out (R1h.out.sub hne) u (hbkh.out u hu)
          omega
      have hpart : ∀ u, ofD y.1 y.2 u → ofB g (.slice (some ⟨bl, 0, none⟩) b.ds.length cap) hs' u := fun u hu => .inr (.inr ⟨k, y, HK.out, hu⟩)
      have HPART := Lib.hid hpart
      clear hn hpart
      go_wp2_with fail
      refine Calls.mono (pending_any _ _ _ _ _ HD.out) ?_
      rintro e w2 ⟨rfl, rfl⟩
      rcases Nat.lt_trichotomy d.p.length ks'.length with hcmp | hcmp | hcmp
      · go_wp2_with fail
        all_goals
          refine Calls.mono (crash_any wr _ _ _ _ _ (ks'.take (d.p.length)) HD.out (Bools.takeI K1h.out (by omega)) (fun hne e9 => HNA.out _ (by cases aok <;> exact e9) (fun e8 => hne (by rw [e8]; simp)) (HPART.out _ (.inl rfl)))) ?_
          rintro e w3 ⟨rfl, D3, F3⟩
          obtain ⟨H4, G4, q4⟩ := H1h.out.setDisk HK.out F3.obj D3 (fun x hx => by cases hx)
          have K4 := Bools.frN K1h.out F3 (fun hne u hu e9 => HNA.out u hu hne (HPART.out u (.inl e9)))
          have K5 := Bools.dropI K4 (show (d.p.length) ≤ ks'.length by omega)
          have R5 := R1h.out.step HDK.out (n := d.p.length) (by omega)
          have F5 := F1h.out.transN G4 (fun u hu => q1h.out u hu)
          have q5 : ∀ u, ofB g (.slice (some ⟨bl, 0, none⟩) b.ds.length cap) (hs'.set k (y.1, .slice none 0 0)) u → ofB g (.slice (some ⟨bl, 0, none⟩) b.ds.length cap) hs u ∨ w.heap.size ≤ u := fun u hu => by
            rcases q4 u hu with h9 | h9
            · exact q1h.out u h9
            · exact .inr (Nat.le_trans F1h.out.size h9)
          have HALL : Hid (∀ kv2, Bools w3 kv2 (ks'.drop (d.p.length)) → (∀ u, kv2.ownBlock = some u → kv.ownBlock = some u) → ∃ hs' ds' ks'', IsBench w3 base g (.slice (some ⟨bl, 0, none⟩) b.ds.length cap) hs' { b with ds := ds' } ∧ CrR b ks (k + 1) ds' ks'' ∧ Bools w3 kv2 ks'' ∧ (∀ y, kv2.ownBlock = some y → kv.ownBlock = some y) ∧ Fr (ofB g (.slice (some ⟨bl, 0, none⟩) b.ds.length cap) hs) w w3 ∧ ∀ y, ofB g (.slice (some ⟨bl, 0, none⟩) b.ds.length cap) hs' y → ofB g (.slice (some ⟨bl, 0, none⟩) b.ds.length cap) hs y ∨ w.heap.size ≤ y) :=
            fun kv2 h1 h2 => ⟨_, _, _, H4, R5, h1, h2, F5, q5⟩
          have HK5 := Lib.hid K5
          have HBK : Hid (∀ u, (Value.slice (if capk = (d.p.length) then aok else aok.map (·.add (d.p.length))) (ks'.length - (d.p.length)) (capk - (d.p.length))).ownBlock = some u → kv.ownBlock = some u) := fun u hu => hbkh.out u (Bools.blk hu)
          clear K5 K4 H4 G4 q4 R5 F5 q5 D3 F3
          by_cases hck : capk = (d.p.length)
          · have HK6 : Hid (Bools w3 (.slice aok (ks'.length - (d.p.length)) (capk - (d.p.length))) (ks'.drop (d.p.length))) := by
              have := HK5.out
              rw [if_pos hck] at this
              exact this
            have HB6 : Hid (∀ u, (Value.slice aok (ks'.length - (d.p.length)) (capk - (d.p.length))).ownBlock = some u → kv.ownBlock = some u) := by
              have := HBK.out
              rw [if_pos hck] at this
              exact this
            go_wp2_with fail
            go_roundw
            case rel => exact ⟨k + 1, by omega, by go_num, Lib.hid (HALL.out _ (by first | exact HK6.out | (have h9 := HK6.out; simpa [hck] using h9) | (have h9 := HK6.out; simpa using h9)) (by first | exact HB6.out | (have h9 := HB6.out; simpa [hck] using h9) | (have h9 := HB6.out; simpa using h9)))⟩
            case measure => simp [intOf]; omega
          · have HK6 : Hid (Bools w3 (.slice (aok.map (·.add (d.p.length))) (ks'.length - (d.p.length)) (capk - (d.p.length))) (ks'.drop (d.p.length))) := by
              have := HK5.out
              rw [if_neg hck] at this
              exact this
            have HB6 : Hid (∀ u, (Value.slice (aok.map (·.add (d.p.length))) (ks'.length - (d.p.length)) (capk - (d.p.length))).ownBlock = some u → kv.ownBlock = some u) := by
              have := HBK.out
              rw [if_neg hck] at this
              exact this
            go_wp2_with fail
            go_roundw
            case rel => exact ⟨k + 1, by omega, by go_num, Lib.hid (HALL.out _ (by first | exact HK6.out | (have h9 := HK6.out; simpa [hck] using h9) | (have h9 := HK6.out; simpa using h9)) (by first | exact HB6.out | (have h9 := HB6.out; simpa [hck] using h9) | (have h9 := HB6.out; simpa using h9)))⟩
            case measure => simp [intOf]; omega
      · go_wp2_with fail
        all_goals
          refine Calls.mono (crash_any wr _ _ _ _ _ (ks'.take (ks'.length)) HD.out (Bools.takeI K1h.out (by omega)) (fun hne e9 => HNA.out _ (by cases aok <;> exact e9) (fun e8 => hne (by rw [e8]; simp)) (HPART.out _ (.inl rfl)))) ?_
          rintro e w3 ⟨rfl, D3, F3⟩
          obtain ⟨H4, G4, q4⟩ := H1h.out.setDisk HK.out F3.obj D3 (fun x hx => by cases hx)
          have K4 := Bools.frN K1h.out F3 (fun hne u hu e9 => HNA.out u hu hne (HPART.out u (.inl e9)))
          have K5 := Bools.dropI K4 (show (ks'.length) ≤ ks'.length by omega)
          have R5 := R1h.out.step HDK.out (n := ks'.length) (by omega)
          have F5 := F1h.out.transN G4 (fun u hu => q1h.out u hu)
          have q5 : ∀ u, ofB g (.slice (some ⟨bl, 0, none⟩) b.ds.length cap) (hs'.set k (y.1, .slice none 0 0)) u → ofB g (.slice (some ⟨bl, 0, none⟩) b.ds.length cap) hs u ∨ w.heap.size ≤ u := fun u hu => by
            rcases q4 u hu with h9 | h9
            · exact q1h.out u h9
            · exact .inr (Nat.le_trans F1h.out.size h9)
          have HALL : Hid (∀ kv2, Bools w3 kv2 (ks'.drop (ks'.length)) → (∀ u, kv2.ownBlock = some u → kv.ownBlock = some u) → ∃ hs' ds' ks'', IsBench w3 base g (.slice (some ⟨bl, 0, none⟩) b.ds.length cap) hs' { b with ds := ds' } ∧ CrR b ks (k + 1) ds' ks'' ∧ Bools w3 kv2 ks'' ∧ (∀ y, kv2.ownBlock = some y → kv.ownBlock = some y) ∧ Fr (ofB g (.slice (some ⟨bl, 0, none⟩) b.ds.length cap) hs) w w3 ∧ ∀ y, ofB g (.slice (some ⟨bl, 0, none⟩) b.ds.length cap) hs' y → ofB g (.slice (some ⟨bl, 0, none⟩) b.ds.length cap) hs y ∨ w.heap.size ≤ y) :=
            fun kv2 h1 h2 => ⟨_, _, _, H4, R5, h1, h2, F5, q5⟩
          have HK5 := Lib.hid K5
          have HBK : Hid (∀ u, (Value.slice (if capk = (ks'.length) then aok else aok.map (·.add (ks'.length))) (ks'.length - (ks'.length)) (capk - (ks'.length))).ownBlock = some u → kv.ownBlock = some u) := fun u hu => hbkh.out u (Bools.blk hu)
          clear K5 K4 H4 G4 q4 R5 F5 q5 D3 F3
          by_cases hck : capk = (ks'.length)
          · have HK6 : Hid (Bools w3 (.slice aok (ks'.length - (ks'.length)) (capk - (ks'.length))) (ks'.drop (ks'.length))) := by
              have := HK5.out
              rw [if_pos hck] at this
              exact this
            have HB6 : Hid (∀ u, (Value.slice aok (ks'.length - (ks'.length)) (capk - (ks'.length))).ownBlock = some u → kv.ownBlock = some u) := by
              have := HBK.out
              rw [if_pos hck] at this
              exact this
            go_wp2_with fail
            go_roundw
            case rel => exact ⟨k + 1, by omega, by go_num, Lib.hid (HALL.out _ (by first | exact HK6.out | (have h9 := HK6.out; simpa [hck] using h9) | (have h9 := HK6.out; simpa using h9)) (by first | exact HB6.out | (have h9 := HB6.out; simpa [hck] using h9) | (have h9 := HB6.out; simpa using h9)))⟩
            case measure => simp [intOf]; omega
          · have HK6 : Hid (Bools w3 (.slice (aok.map (·.add (ks'.length))) (ks'.length - (ks'.length)) (capk - (ks'.length))) (ks'.drop (ks'.length))) := by
              have := HK5.out
              rw [if_neg hck] at this
              exact this
            have HB6 : Hid (∀ u, (Value.slice (aok.map (·.add (ks'.length))) (ks'.length - (ks'.length)) (capk - (ks'.length))).ownBlock = some u → kv.ownBlock = some u) := by
              have := HBK.out
              rw [if_neg hck] at this
              exact this
            go_wp2_with fail
            go_roundw
            case rel => exact ⟨k + 1, by omega, by go_num, Lib.hid (HALL.out _ (by first | exact HK6.out | (have h9 := HK6.out; simpa [hck] using h9) | (have h9 := HK6.out; simpa using h9)) (by first | exact HB6.out | (have h9 := HB6.out; simpa [hck] using h9) | (have h9 := HB6.out; simpa using h9)))⟩
            case measure => simp [intOf]; omega
      · go_wp2_with fail
        all_goals
          refine Calls.mono (crash_any wr _ _ _ _ _ (ks'.take (ks'.length)) HD.out (Bools.takeI K1h.out (by omega)) (fun hne e9 => HNA.out _ (by cases aok <;> exact e9) (fun e8 => hne (by rw [e8]; simp)) (HPART.out _ (.inl rfl)))) ?_
          rintro e w3 ⟨rfl, D3, F3⟩
          obtain ⟨H4, G4, q4⟩ := H1h.out.setDisk HK.out F3.obj D3 (fun x hx => by cases hx)
          have K4 := Bools.frN K1h.out F3 (fun hne u hu e9 => HNA.out u hu hne (HPART.out u (.inl e9)))
          have K5 := Bools.dropI K4 (show (ks'.length) ≤ ks'.length by omega)
          have R5 := R1h.out.step HDK.out (n := ks'.length) (by omega)
          have F5 := F1h.out.transN G4 (fun u hu => q1h.out u hu)
          have q5 : ∀ u, ofB g (.slice (some ⟨bl, 0, none⟩) b.ds.length cap) (hs'.set k (y.1, .slice none 0 0)) u → ofB g (.slice (some ⟨bl, 0, none⟩) b.ds.length cap) hs u ∨ w.heap.size ≤ u := fun u hu => by
            rcases q4 u hu with h9 | h9
            · exact q1h.out u h9
            · exact .inr (Nat.le_trans F1h.out.size h9)
          have HALL : Hid (∀ kv2, Bools w3 kv2 (ks'.drop (ks'.length)) → (∀ u, kv2.ownBlock = some u → kv.ownBlock = some u) → ∃ hs' ds' ks'', IsBench w3 base g (.slice (some ⟨bl, 0, none⟩) b.ds.length cap) hs' { b with ds := ds' } ∧ CrR b ks (k + 1) ds' ks'' ∧ Bools w3 kv2 ks'' ∧ (∀ y, kv2.ownBlock = some y → kv.ownBlock = some y) ∧ Fr (ofB g (.slice (some ⟨bl, 0, none⟩) b.ds.length cap) hs) w w3 ∧ ∀ y, ofB g (.slice (some ⟨bl, 0, none⟩) b.ds.length cap) hs' y → ofB g (.slice (some ⟨bl, 0, none⟩) b.ds.length cap) hs y ∨ w.heap.size ≤ y) :=
            fun kv2 h1 h2 => ⟨_, _, _, H4, R5, h1, h2, F5, q5⟩
          have HK5 := Lib.hid K5
          have HBK : Hid (∀ u, (Value.slice (if capk = (ks'.length) then aok else aok.map (·.add (ks'.length))) (ks'.length - (ks'.length)) (capk - (ks'.length))).ownBlock = some u → kv.ownBlock = some u) := fun u hu => hbkh.out u (Bools.blk hu)
          clear K5 K4 H4 G4 q4 R5 F5 q5 D3 F3
          by_cases hck : capk = (ks'.length)
          · have HK6 : Hid (Bools w3 (.slice aok (ks'.length - (ks'.length)) (capk - (ks'.length))) (ks'.drop (ks'.length))) := by
              have := HK5.out
              rw [if_pos hck] at this
              exact this
            have HB6 : Hid (∀ u, (Value.slice aok (ks'.length - (ks'.length)) (capk - (ks'.length))).ownBlock = some u → kv.ownBlock = some u) := by
              have := HBK.out
              rw [if_pos hck] at this
              exact this
            go_wp2_with fail
            go_roundw
            case rel => exact ⟨k + 1, by omega, by go_num, Lib.hid (HALL.out _ (by first | exact HK6.out | (have h9 := HK6.out; simpa [hck] using h9) | (have h9 := HK6.out; simpa using h9)) (by first | exact HB6.out | (have h9 := HB6.out; simpa [hck] using h9) | (have h9 := HB6.out; simpa using h9)))⟩
            case measure => simp [intOf]; omega
          · have HK6 : Hid (Bools w3 (.slice (aok.map (·.add (ks'.length))) (ks'.length - (ks'.length)) (capk - (ks'.length))) (ks'.drop (ks'.length))) := by
              have := HK5.out
              rw [if_neg hck] at this
              exact this
            have HB6 : Hid (∀ u, (Value.slice (aok.map (·.add (ks'.length))) (ks'.length - (ks'.length)) (capk - (ks'.length))).ownBlock = some u → kv.ownBlock = some u) := by
              have := HBK.out
              rw [if_neg hck] at this
              exact this
            go_wp2_with fail
            go_roundw
            case rel => exact ⟨k + 1, by omega, by go_num, Lib.hid (HALL.out _ (by first | exact HK6.out | (have h9 := HK6.out; simpa [hck] using h9) | (have h9 := HK6.out; simpa using h9)) (by first | exact HB6.out | (have h9 := HB6.out; simpa [hck] using h9) | (have h9 := HB6.out; simpa using h9)))⟩
            case measure => simp [intOf]; omega
    · have hke : k = b.ds.length := by omega
      have HDN := Lib.hid (R1.done hke)
      have hcell1 := H1.cell
      have hz1 := H1.frozen (o := 1) (by decide)
      have hz2 := H1.frozen (o := 2) (by decide)
      obtain ⟨_, hc1, hc2, _⟩ := hcell1
      have h2 : IsBench (wr.setCell ⟨g, 1, none⟩ (.int .i64 (-1))) base g (.slice ao b.ds.length cap) hs' { b with ds := ds', left := -1 } :=
        H1.setCells (Fr.cell (w := wr) ⟨g, 1, none⟩ _) (rangeAt_setCell H1.cells (by show 1 < 4; decide)) (World.there_setCells H1.there g 1 [.int .i64 (-1)]) rfl
      have hc22 := h2.cell.2.2.1
      have hz22 := h2.frozen (o := 2) (by decide)
      have h3 : IsBench ((wr.setCell ⟨g, 1, none⟩ (.int .i64 (-1))).setCell ⟨g, 2, none⟩ (.bool false)) base g (.slice ao b.ds.length cap) hs' { b with ds := ds', left := -1, down := false } :=
        h2.setCells (Fr.cell ⟨g, 2, none⟩ _) (rangeAt_setCell h2.cells (by show 2 < 4; decide)) (World.there_setCells h2.there g 2 [.bool false]) rfl
      have H3 : Hid (IsBench ((wr.setCell ⟨g, 1, none⟩ (.int .i64 (-1))).setCell ⟨g, 2, none⟩ (.bool false)) base g (.slice ao b.ds.length cap) hs' (B.crash b ks)) := by
        have e9 : B.crash b ks = { b with ds := ds', left := -1, down := false } := by unfold B.crash; rw [← HDN.out]
        rw [e9]; exact h3
      have F3 : Hid (Fr (ofB g (.slice ao b.ds.length cap) hs) w ((wr.setCell ⟨g, 1, none⟩ (.int .i64 (-1))).setCell ⟨g, 2, none⟩ (.bool false))) :=
        (F1.trans ((Fr.cell (w := wr) ⟨g, 1, none⟩ _).mono (fun x hx => .inl hx))).trans ((Fr.cell ⟨g, 2, none⟩ _).mono (fun x hx => .inl hx))
      have Q3 := Lib.hid q1
      clear H1 h2 h3 F1 q1 R1 K1 hbk hke
      go_wp2
      go_end0
      exact ⟨rfl, hs', H3.out, F3.out, Q3.out⟩
end Go.Proofs.Ytggljcdkiaggeaa
