/- Items in memory: three cells each (disk, place, bytes); the walks of record.fine, record.Check and what it calls. -/
import Derived.Test.YtenjpldinnbcbaaRec
import Derived.Test.YtenjpldinnbcbaaGeoA
import Derived.Test.YtenjpldinnbcbaaMoreF
namespace Go.Proofs.Ytenjpldinnbcbaa
open Go.RowKit C
set_option linter.unusedVariables false
set_option linter.unusedSimpArgs false
set_option maxRecDepth 100000
set_option maxHeartbeats 4000000

/-- the cells of an item at a place, and its bytes -/
def Itm (w : World) (b o : Nat) (x : RI) (u : Value) : Prop :=
  w.cell? ⟨b, o, none⟩ = some (.int .i64 x.d) ∧ w.cell? ⟨b, o + 1, none⟩ = some (.int .i64 x.a) ∧ w.cell? ⟨b, o + 2, none⟩ = some u ∧ Byt w u x.b ∧ i64b x.d ∧ i64b x.a
/-- a slice of items -/
def Items (w : World) (v : Value) (l : List RI) : Prop :=
  ∃ ao cap, v = .slice ao l.length cap ∧ l.length ≤ cap ∧ cap ≤ maxLen ∧ (ao = none → cap = 0) ∧ (l = [] ∨ ∃ b off, ao = some ⟨b, off, none⟩ ∧ b < w.heap.size ∧ ∀ i x, l[i]? = some x → ∃ u, Itm w b (off + i * 3) x u)
theorem Itm.up {w w' : World} {b o : Nat} {x : RI} {u : Value} (h : Itm w b o x u) (hb : Below w.heap.size w w') (hl : b < w.heap.size) : Itm w' b o x u := by
  obtain ⟨h1, h2, h3, h4, h5⟩ := h
  refine ⟨?_, ?_, ?_, h4.up hb, h5⟩
  · rw [World.cell?_of_block (hb.block b hl)]; exact h1
  · rw [World.cell?_of_block (hb.block b hl)]; exact h2
  · rw [World.cell?_of_block (hb.block b hl)]; exact h3
theorem Itm.lt {w : World} {b o : Nat} {x : RI} {u : Value} (h : Itm w b o x u) : b < w.heap.size := by
  by_cases hn : b < w.heap.size
  · exact hn
  · have h0 : w.heap[b]? = none := Array.getElem?_eq_none (by omega)
    have h1 := h.1
    simp [World.cell?, h0] at h1
theorem Items.up {w w' : World} {v : Value} {l : List RI} (h : Items w v l) (hb : Below w.heap.size w w') : Items w' v l := by
  obtain ⟨ao, cap, rfl, h1, h2, h0, h3⟩ := h
  refine ⟨ao, cap, rfl, h1, h2, h0, ?_⟩
  rcases h3 with h3 | ⟨b, off, rfl, hlt, hc⟩
  · exact .inl h3
  · exact .inr ⟨b, off, rfl, Nat.lt_of_lt_of_le hlt hb.size, fun i x hx => let ⟨u, hu⟩ := hc i x hx; ⟨u, hu.up hb hlt⟩⟩
theorem Items.nil (w : World) : Items w (.slice none 0 0) [] := ⟨none, 0, rfl, Nat.le_refl _, by simp [maxLen], fun _ => rfl, .inl rfl⟩
theorem Items.get {w : World} {ao : Option Addr} {n cap : Nat} {l : List RI} (h : Items w (.slice ao n cap) l) {k : Nat} (hk : k < n) :
    ∃ b off x u, ao = some ⟨b, off, none⟩ ∧ b < w.heap.size ∧ Hid (l[k]? = some x) ∧ Itm w b (off + k * 3) x u := by
  obtain ⟨ao', cap', e, h1, h2, h0, h3⟩ := h
  cases e
  rcases h3 with rfl | ⟨b, off, rfl, hlt, hc⟩
  · simp at hk
  · exact ⟨b, off, l[k], _, rfl, hlt, List.getElem?_eq_getElem hk, (hc k _ (List.getElem?_eq_getElem hk)).choose_spec⟩
theorem Items.shape {w : World} {v : Value} {l : List RI} (h : Items w v l) : ∃ ao cap, v = .slice ao l.length cap ∧ l.length ≤ cap ∧ cap ≤ 9223372036854775807 ∧ (ao = none → cap = 0) := by
  obtain ⟨ao, cap, rfl, h1, h2, h0, _⟩ := h
  exact ⟨ao, cap, rfl, h1, h2, h0⟩
theorem Items.takeI {w : World} {ao : Option Addr} {n cap k : Nat} {l : List RI} (h : Items w (.slice ao n cap) l) (hk : k ≤ n) : Items w (.slice ao k cap) (l.take k) := by
  obtain ⟨ao', cap', e, h1, h2, h0, h3⟩ := h
  cases e
  have hl : (l.take k).length = k := by rw [List.length_take]; omega
  refine ⟨ao, cap, by rw [hl], by omega, h2, h0, ?_⟩
  rcases h3 with rfl | ⟨b, off, rfl, hlt, hc⟩
  · exact .inl (by simp)
  · exact .inr ⟨b, off, rfl, hlt, fun i x hx => hc i x (by rw [List.getElem?_take] at hx; split at hx; exact hx; cases hx)⟩
theorem Items.len {w : World} {ao : Option Addr} {n cap : Nat} {l : List RI} (h : Items w (.slice ao n cap) l) : n = l.length := by
  obtain ⟨ao', cap', e, _⟩ := h
  cases e; rfl
theorem Items.bytes {w : World} {v : Value} {l : List RI} (h : Items w v l) : ∀ x ∈ l, ∀ c ∈ x.b, c < 256 := by
  intro x hx
  obtain ⟨i, hi, rfl⟩ := List.getElem_of_mem hx
  obtain ⟨ao, cap, rfl, _, _, _, h3⟩ := h
  rcases h3 with rfl | ⟨b, off, _, _, hc⟩
  · cases hx
  · obtain ⟨u, hu⟩ := hc i _ (List.getElem?_eq_getElem hi)
    exact hu.2.2.2.1.bytes
theorem Items.ints {w : World} {v : Value} {l : List RI} (h : Items w v l) : ∀ x ∈ l, i64b x.d ∧ i64b x.a := by
  intro x hx
  obtain ⟨i, hi, rfl⟩ := List.getElem_of_mem hx
  obtain ⟨ao, cap, rfl, _, _, _, h3⟩ := h
  rcases h3 with rfl | ⟨b, off, _, _, hc⟩
  · cases hx
  · obtain ⟨u, hu⟩ := hc i _ (List.getElem?_eq_getElem hi)
    exact hu.2.2.2.2

theorem fine_any (d a : Int) (v : Value) (l : List Nat) (w : World) (hd : i64b d) (ha : i64b a) (h : Byt w v l) :
    Calls Try.prog 71 #[.agg #[.int .i64 d, .int .i64 a, v]] w fun e w' => e = .returned (.bool (RI.mk d a l).fine) ∧ Below w.heap.size w w' := by
  obtain ⟨d1, d2⟩ := hd
  obtain ⟨a1, a2⟩ := ha
  obtain ⟨ao, cap, rfl, h1, h2⟩ := h.shape
  obtain ⟨n, hn⟩ : ∃ n, n = l.length := ⟨_, rfl⟩
  rw [← hn] at h1 ⊢
  have hN := Lib.hid hn
  have hF : Hid ((RI.mk d a l).fine = true ↔ (0 ≤ d ∧ d ≤ 7) ∧ (36 ≤ a ∧ a ≤ 51) ∧ n = 32) := by show _ ↔ _; rw [hn]; exact RI.fine_iff _
  clear hn h
  go_enter Try.func71, Try.ntmps71
  by_cases c1 : 0 ≤ d
  · by_cases c2 : d ≤ 7
    · by_cases c3 : 36 ≤ a
      · by_cases c4 : a ≤ 51
        · by_cases c5 : n = 32
          · go_wp2
            go_ret
            refine ⟨ret_bool ?_, belA1 (belR _)⟩
            have := hF.out.2 ⟨⟨c1, c2⟩, ⟨c3, c4⟩, c5⟩
            rw [this]
          · go_wp2
            go_ret
            refine ⟨ret_bool ?_, belA1 (belR _)⟩
            have : (RI.mk d a l).fine = false := by rw [Bool.eq_false_iff]; intro h; exact c5 (hF.out.1 h).2.2
            rw [this]; simp [c5]; omega
        · go_wp2
          go_ret
          refine ⟨ret_bool ?_, belA1 (belR _)⟩
          have : (RI.mk d a l).fine = false := by rw [Bool.eq_false_iff]; intro h; have := (hF.out.1 h).2.1; omega
          rw [this]
      · go_wp2
        go_ret
        refine ⟨ret_bool ?_, belA1 (belR _)⟩
        have : (RI.mk d a l).fine = false := by rw [Bool.eq_false_iff]; intro h; have := (hF.out.1 h).2.1; omega
        rw [this]
    · go_wp2
      go_ret
      refine ⟨ret_bool ?_, belA1 (belR _)⟩
      have : (RI.mk d a l).fine = false := by rw [Bool.eq_false_iff]; intro h; have := (hF.out.1 h).1; omega
      rw [this]
  · go_wp2
    go_ret
    refine ⟨ret_bool ?_, belA1 (belR _)⟩
    have : (RI.mk d a l).fine = false := by rw [Bool.eq_false_iff]; intro h; have := (hF.out.1 h).1; omega
    rw [this]

theorem hit1_any (x y : RI) (v u : Value) (g : Nat) (w : World) (hy : i64b y.d ∧ i64b y.a) (hx : Itm w g 0 x u) :
    Calls Try.prog 73 #[.agg #[.int .i64 y.d, .int .i64 y.a, v], .pointer (some ⟨g, 0, none⟩)] w fun e w' => e = .returned (.bool (y.at x)) ∧ Below w.heap.size w w' := by
  obtain ⟨c0, c1, c2, _, ⟨x1, x2⟩, x3, x4⟩ := hx
  obtain ⟨⟨y1, y2⟩, y3, y4⟩ := hy
  rw [Nat.zero_add] at c1 c2
  obtain ⟨d, a, l⟩ := x
  obtain ⟨d', a', l'⟩ := y
  dsimp only at *
  have k0 := fun o => Lib.cell?_alloc_marked o c0
  have k1 := fun o => Lib.cell?_alloc_marked o c1
  have hF : Hid ((RI.mk d' a' l').at ⟨d, a, l⟩ = ((d' == d) && (a' == a))) := rfl
  obtain ⟨b, hb⟩ : ∃ b, (d' == d) = b := ⟨_, rfl⟩
  go_enter Try.func73, Try.ntmps73
  cases b
  · go_wp2
    go_ret
    refine ⟨ret_bool ?_, belA1 (belR _)⟩
    rw [hF.out, hb]; rfl
  · go_wp2
    go_ret
    refine ⟨ret_bool ?_, belA1 (belR _)⟩
    rw [hF.out, hb]; rfl
theorem call_hit (args : Array Value) (w : World) : (callFunc 73 args).run Try.prog w = .ok (.enter 73 args) w := by
  simp [callFunc, go_sem, Try.func73, Try.f73]
theorem ifunc_any (v cp : Value) (l : List RI) (w : World) (F : Nat) (p : RI → Bool) (hE : ∀ (args : Array Value) w, (callFunc F args).run Try.prog w = .ok (.enter F args) w)
    (hF : ∀ (w' : World) (x : RI) (u : Value), Below w.heap.size w w' → Byt w' u x.b → i64b x.d ∧ i64b x.a → Calls Try.prog F #[.agg #[.int .i64 x.d, .int .i64 x.a, u], cp] w' fun e w2 => e = .returned (.bool (p x)) ∧ Below w'.heap.size w' w2) (h : Items w v l) :
    Calls Try.prog 102 #[v, .func (.func F) #[] #[cp]] w fun e w' => ∃ r : Int, e = .returned (.int .i64 r) ∧ -1 ≤ r ∧ r ≤ 9223372036854775807 ∧ Hid (0 ≤ r ↔ l.any p = true) ∧ Below w.heap.size w w' := by
  have h' := Lib.hid h
  have HF := Lib.hid hF
  obtain ⟨ao, cap, rfl, hc1, hc2, _⟩ := h.shape
  clear h hF
  go_enter Try.func102, Try.ntmps102
  go_wp2
  go_loopw [8] (fun i w' => ∃ k : Nat, k ≤ l.length ∧ i = .int .i64 k ∧ Hid ((l.take k).any p = false) ∧ Below w.heap.size w w') (fun i _ => l.length - (intOf i).toNat)
  case atStart => exact ⟨0, Nat.zero_le _, rfl, Lib.hid rfl, belR _⟩
  case round =>
    obtain ⟨k, hk, rfl, hall, B⟩ := hrel
    by_cases hlt : k < l.length
    · obtain ⟨b, off, x, u, rfl, hbl, hx, hit⟩ := Items.get (h'.out.up B) hlt
      obtain ⟨c0, c1, c2, hy, hi⟩ := hit
      obtain ⟨pb, hpb⟩ : ∃ pb, p x = pb := ⟨_, rfl⟩
      have HP := Lib.hid hpb
      clear hpb
      have hcall := HF.out _ x u B hy hi
      go_wp2_with fail
      refine Calls.mono hcall ?_
      rw [HP.out]
      rintro e w2 ⟨rfl, b2⟩
      have B2 := belT B b2
      cases pb
      · go_wp2
        go_roundw
        case rel =>
          refine ⟨k + 1, by omega, by go_num, Lib.hid ?_, by first | exact B2 | exact belDr B2⟩
          rw [take_succ_get hx.out, List.any_append, hall.out]
          simp [HP.out]
        case measure => simp [intOf]; omega
      · go_wp2
        go_ret
        refine ⟨k, rfl, by omega, by omega, Lib.hid ⟨fun _ => ?_, fun _ => by omega⟩, by first | exact B2 | exact belDr B2⟩
        exact List.any_eq_true.2 ⟨x, List.mem_of_getElem? hx.out, HP.out⟩
    · go_wp2
      go_ret
      refine ⟨-1, rfl, by omega, by omega, Lib.hid ⟨fun h => by omega, fun h => ?_⟩, by first | exact B | exact belDr B⟩
      rw [show l.take k = l by rw [List.take_of_length_le (by omega)]] at hall
      rw [hall.out] at h
      cases h
theorem cfunc_any (v cp : Value) (l : List RI) (w : World) (F : Nat) (p : RI → Bool) (hE : ∀ (args : Array Value) w, (callFunc F args).run Try.prog w = .ok (.enter F args) w)
    (hF : ∀ (w' : World) (x : RI) (u : Value), Below w.heap.size w w' → Byt w' u x.b → i64b x.d ∧ i64b x.a → Calls Try.prog F #[.agg #[.int .i64 x.d, .int .i64 x.a, u], cp] w' fun e w2 => e = .returned (.bool (p x)) ∧ Below w'.heap.size w' w2) (h : Items w v l) :
    Calls Try.prog 72 #[v, .func (.func F) #[] #[cp]] w fun e w' => e = .returned (.bool (l.any p)) ∧ Below w.heap.size w w' := by
  have HF := Lib.hid hF
  clear hF
  go_enter Try.func72, Try.ntmps72
  go_wp2_with fail
  refine Calls.mono (ifunc_any v cp l _ F p hE HF.out h) ?_
  rintro e w1 ⟨r, rfl, r1, r2, HR, D⟩
  go_wp2
  go_ret
  refine ⟨ret_bool ?_, D⟩
  rw [Bool.eq_iff_iff, ← HR.out, decide_eq_true_iff]
def rerr (s : Int) (l : List RI) : Int := if rok s l then 0 else 1
theorem rerr_yes {s : Int} {l : List RI} (h : rok s l = true) : rerr s l = 0 := by unfold rerr; rw [if_pos h]
theorem rerr_no {s : Int} {l : List RI} (h : rok s l = false) : rerr s l = 1 := by unfold rerr; rw [if_neg (by rw [h]; decide)]
theorem box2 {w W : World} {a b : Value} {t : TypeId} (h : Below (w.alloc (.cells #[a, b] t)).heap.size (w.alloc (.cells #[a, b] t)) W) : W.cell? ⟨w.heap.size, 0, none⟩ = some a ∧ W.cell? ⟨w.heap.size, 1, none⟩ = some b :=
  ⟨box_up h 0 rfl, box_up h 1 rfl⟩
theorem itm_box {w W : World} {d a : Int} {l : List Nat} {u : Value} {t : TypeId} (h : Below (w.alloc (.cells #[.int .i64 d, .int .i64 a, u] t)).heap.size (w.alloc (.cells #[.int .i64 d, .int .i64 a, u] t)) W) (hy : Byt w u l) (hi : i64b d ∧ i64b a) : Itm W w.heap.size 0 ⟨d, a, l⟩ u :=
  ⟨box_up h 0 rfl, box_up h 1 rfl, box_up h 2 rfl, hy.up (belT (belA1 (belR _)) h), hi⟩
theorem rcheck_any (s : Int) (v : Value) (l : List RI) (w : World) (hs : i64b s) (h : Items w v l) :
    Calls Try.prog 33 #[.agg #[.int .i64 s, v]] w fun e w' => e = .returned (.int .i64 (rerr s l)) ∧ Below w.heap.size w w' := by
  have h' := Lib.hid h
  obtain ⟨ao, cap, rfl, hc1, hc2, _⟩ := h.shape
  have HK : Hid (∀ W, Below (w.alloc (.cells #[.int .i64 s, .slice ao l.length cap] 59)).heap.size (w.alloc (.cells #[.int .i64 s, .slice ao l.length cap] 59)) W → W.cell? ⟨w.heap.size, 0, none⟩ = some (.int .i64 s) ∧ W.cell? ⟨w.heap.size, 1, none⟩ = some (.slice ao l.length cap)) := fun W hW => box2 hW
  obtain ⟨s1, s2⟩ := hs
  clear h
  obtain ⟨n, hn⟩ : ∃ n, n = l.length := ⟨_, rfl⟩
  have HN := Lib.hid hn
  rw [← hn] at h' HK ⊢
  rw [← hn] at hc1
  clear hn
  by_cases c : (1 ≤ s ∧ s ≤ 2147483647) ∧ n ≤ 3
  · obtain ⟨⟨c1, c2⟩, c3⟩ := c
    have HE : Hid (rok s l = RI.good [] l) := by
      show _ = _
      unfold rok
      rw [(inB_iff _ _ _).2 ⟨c1, c2⟩, decide_eq_true (by rw [← HN.out]; exact c3)]; rfl
    go_enter Try.func33, Try.ntmps33
    go_wp2
    go_loopw [22] (fun i w' => ∃ k : Nat, k ≤ n ∧ i = .int .i64 k ∧ Hid (RI.good [] l = RI.good (l.take k) (l.drop k)) ∧ Below (w.alloc (.cells #[.int .i64 s, .slice ao n cap] 59)).heap.size (w.alloc (.cells #[.int .i64 s, .slice ao n cap] 59)) w') (fun i _ => n - (intOf i).toNat)
    case atStart => exact ⟨0, Nat.zero_le _, rfl, Lib.hid rfl, belR _⟩
    case round =>
      obtain ⟨k, hk, rfl, hall, B⟩ := hrel
      have Bw : Below w.heap.size w wr := belT (belA1 (belR _)) B
      obtain ⟨cb0, cb1⟩ := HK.out _ B
      by_cases hlt : k < n
      · obtain ⟨b, off, x, u, rfl, hbl, hx, hit⟩ := Items.get (h'.out.up Bw) hlt
        have HIT := Lib.hid hit
        obtain ⟨c0, c1, c2, hy, hi⟩ := hit
        obtain ⟨au, cu, rfl, hu1, hu2⟩ := hy.shape
        obtain ⟨xd, xa, xb⟩ := x
        dsimp only at *
        obtain ⟨fb, hfb⟩ : ∃ fb, (RI.mk xd xa xb).fine = fb := ⟨_, rfl⟩
        obtain ⟨hb, hhb⟩ : ∃ hb, RI.hit (l.take k) ⟨xd, xa, xb⟩ = hb := ⟨_, rfl⟩
        have HFB := Lib.hid hfb
        have HHB := Lib.hid hhb
        clear hfb hhb
        obtain ⟨W1, hW1⟩ : ∃ W1, W1 = wr.alloc (.cells #[.int .i64 xd, .int .i64 xa, .slice au xb.length cu] 56) := ⟨_, rfl⟩
        have B1 : Below w.heap.size w W1 := by rw [hW1]; exact belT Bw (belA1 (belR _))
        have B1' : Below (w.alloc (.cells #[.int .i64 s, .slice (some ⟨b, off, none⟩) n cap] 59)).heap.size (w.alloc (.cells #[.int .i64 s, .slice (some ⟨b, off, none⟩) n cap] 59)) W1 := by rw [hW1]; exact belT B (belA1 (belR _))
        have HI1 : Hid (∀ W, Below W1.heap.size W1 W → Itm W wr.heap.size 0 ⟨xd, xa, xb⟩ (.slice au xb.length cu)) := by
          intro W hW
          rw [hW1] at hW
          exact itm_box hW hy hi
        have hy1 : Byt W1 (.slice au xb.length cu) xb := by rw [hW1]; exact hy.alloc
        have hcall := fine_any xd xa (.slice au xb.length cu) xb W1 hi.1 hi.2 hy1
        rw [HFB.out] at hcall
        have HW1 := Lib.hid hW1
        clear hW1
        go_wp2_with fail
        rw [← HW1.out]
        refine Calls.mono hcall ?_
        rintro e w2 ⟨rfl, b2⟩
        have HI2 := HI1.out _ b2
        obtain ⟨db0, db1⟩ := HK.out _ (belT B1' b2)
        have HT := Lib.hid (Items.takeI (h'.out.up (belT B1 b2)) hk)
        clear cb0 cb1 c0 c1 c2 hcall hy hy1
        cases fb
        · go_wp2
          go_ret
          refine ⟨ret_i64 (Eq.symm (rerr_no ?_)), belT B1 b2⟩
          rw [HE.out, hall.out, RI.good_step hx.out, HFB.out]; rfl
        · go_wp2_with fail
          refine Calls.mono (cfunc_any _ (.pointer (some ⟨wr.heap.size, 0, none⟩)) (l.take k) w2 73 (fun y => y.at ⟨xd, xa, xb⟩) call_hit (fun w' y u hb' hu hy' => hit1_any ⟨xd, xa, xb⟩ y u _ _ w' hy' (HI2.up hb' (HI2.lt))) HT.out) ?_
          rw [show (l.take k).any (fun y => y.at ⟨xd, xa, xb⟩) = hb from HHB.out]
          rintro e w3 ⟨rfl, b3⟩
          obtain ⟨eb0, eb1⟩ := HK.out _ (belT (belT B1' b2) b3)
          cases hb
          · go_wp2
            go_roundw
            case rel =>
              refine ⟨k + 1, by omega, by go_num, Lib.hid ?_, belT (belT B1' b2) b3⟩
              rw [hall.out, RI.good_step (x := ⟨xd, xa, xb⟩) hx.out, HFB.out, HHB.out]; rfl
            case measure => simp [intOf]; omega
          · go_wp2
            go_ret
            refine ⟨ret_i64 (Eq.symm (rerr_no ?_)), belT (belT B1 b2) b3⟩
            rw [HE.out, hall.out, RI.good_step hx.out, HFB.out, HHB.out]; rfl
      · go_wp2
        go_ret
        refine ⟨ret_i64 (Eq.symm (rerr_yes ?_)), Bw⟩
        rw [HE.out, hall.out, show k = l.length by rw [← HN.out]; omega, RI.good_end]
  · have hno : rok s l = false := by
      rw [Bool.eq_false_iff]; intro h
      obtain ⟨k1, k2, _⟩ := (rok_iff s l).1 h
      exact c ⟨k1, by rw [HN.out]; exact k2⟩
    rw [rerr_no hno]
    clear hno
    go_enter Try.func33, Try.ntmps33
    by_cases c1 : 1 ≤ s
    · by_cases c2 : s ≤ 2147483647
      · have c3 : ¬ n ≤ 3 := fun h => c ⟨⟨c1, c2⟩, h⟩
        clear c
        go_wp2
        go_ret
        exact ⟨rfl, belA1 (belR _)⟩
      · clear c
        go_wp2
        go_ret
        exact ⟨rfl, belA1 (belR _)⟩
    · clear c
      go_wp2
      go_ret
      exact ⟨rfl, belA1 (belR _)⟩
end Go.Proofs.Ytenjpldinnbcbaa
