/- console: From: what is scanned. No condition. -/
import Derived.Test.YtollgpnaadgncaaDoorConH
import Derived.Deep.Cut
namespace Go.Proofs.YtollgpnaadgncaaDoor
open Go.RowKit

theorem never_any (c : Int) (hb : 0 ≤ c ∧ c ≤ 255) (w : World) (h : KeysAt w) :
    ∃ bb : Bool, (bb = true ↔ Nev c) ∧ Calls Tryd.prog 34 #[.int .u8 c] w fun e w' => e = .returned (.bool bb) ∧ Fr No w w' :=
  ⟨_, by simp [Nev], never_calls c hb.1 hb.2 w h⟩

theorem bsl_cell {w : World} {ao : Option Addr} {c : Nat} {xs : List Int} (h : BSl w (.slice ao xs.length c) xs) (k : Nat) (hk : k < xs.length) : ∃ b o, ao = some ⟨b, o, none⟩ ∧ w.cell? ⟨b, o + k, none⟩ = some (.int .u8 xs[k]) := by
  obtain ⟨a, c', hv, _, _, _, hc⟩ := h
  cases hv
  obtain ⟨b, o, rfl, hc2⟩ := hc (by intro e; simp [e] at hk)
  exact ⟨b, o, rfl, by have := hc2 k hk; rwa [List.getElem?_eq_getElem hk] at this⟩

/-- a slice of bytes as a source -/
theorem bsl_src {w : World} {ao : Option Addr} {c : Nat} {xs : List Int} (h : BSl w (.slice ao xs.length c) xs) (hp : 0 < xs.length) : ∃ ad, ao = some ad ∧ ∀ j v, (xs.map (Value.int .u8))[j]? = some v → w.cell? (ad.add j) = some v := by
  obtain ⟨b, o, rfl, _⟩ := bsl_cell h 0 hp
  refine ⟨_, rfl, fun j v hj => ?_⟩
  have hjl : j < xs.length := by have := (List.getElem?_eq_some_iff.1 hj).1; simpa using this
  obtain ⟨b', o', he, hc⟩ := bsl_cell h j hjl
  cases he
  rw [addr_add, hc]
  rw [List.getElem?_map, List.getElem?_eq_getElem hjl] at hj
  simpa using hj

/-- what came in lies below -/
theorem BSl.lowb {w : World} {v : Value} {xs : List Int} (h : BSl w v xs) : xs ≠ [] → ∀ k, v.ownBlock = some k → k < w.heap.size := by
  intro hne k hk
  obtain ⟨ao, c, rfl, _, _, _, h4⟩ := h
  obtain ⟨b, o, rfl, hc⟩ := h4 hne
  cases hk
  exact World.block_lt_of_cell? w _ (hc 0 (List.length_pos_iff.2 hne))
theorem BSl.low {S : Nat → Prop} {w w' : World} {v : Value} {xs : List Int} {base : Nat} (h : BSl w v xs) (hl : xs ≠ [] → ∀ k, v.ownBlock = some k → k < base) (hf : Fr S w w') (hS : ∀ k, S k → base ≤ k) : BSl w' v xs := by
  by_cases he : xs = []
  · obtain ⟨a, c, hv, _, hc, _⟩ := h
    subst hv he
    exact bsl_empty _ _ _ hc
  · exact h.fr hf (fun k hk hs => by have := hl he k hk; have := hS k hs; omega)

/-- how far a scan has come -/
structure Scan (P : Int → Prop) (l : List Int) (k : Nat) (B : Bool) : Prop where
  le : k ≤ l.length
  good : B = false → ∀ j (hj : j < l.length), j < k → ¬ P l[j]
  bad : B = true → ∃ x ∈ l, P x
theorem Scan.next {P : Int → Prop} {l : List Int} {k : Nat} (h : Scan P l k false) (hk : k < l.length) {bb : Bool} (hb : bb = true ↔ P l[k]) : Scan P l (k + 1) bb where
  le := hk
  good := fun hB j hj hjk => by
    rcases Nat.lt_or_ge j k with h1 | h1
    · exact h.good rfl j hj h1
    · obtain rfl : j = k := by omega
      rw [← hb, hB]; simp
  bad := fun hB => ⟨_, List.getElem_mem hk, hb.1 hB⟩
theorem Scan.all {P : Int → Prop} {l : List Int} (h : Scan P l l.length false) : ∀ x ∈ l, ¬ P x := by
  intro x hx
  obtain ⟨j, hj, rfl⟩ := List.getElem_of_mem hx
  exact h.good rfl j hj hj
theorem Scan.zero (P : Int → Prop) (l : List Int) : Scan P l 0 false := ⟨Nat.zero_le _, fun _ j _ hj => by omega, fun h => by cases h⟩

/-- one that never stands in a line -/
def NevL (x : Int) : Prop := Nev x ∨ x = 10 ∨ x = 4

theorem splice_cells2 {buf : List Int} {r a : Nat} (pos : Nat) (X : List Int) (h3 : buf.length = 128) (hX : pos + X.length ≤ 128) : splice (ccells buf r a) (1 + pos) (X.map (Value.int .u8)) = ccells (splice buf pos X) r a := by
  unfold splice ccells
  simp only [List.length_map, List.cons_append]
  rw [Nat.add_comm 1 pos, List.take_succ_cons, List.take_append_of_le_length (by simp; omega), show pos + 1 + X.length = (pos + X.length) + 1 by omega, List.drop_succ_cons, List.drop_append_of_le_length (by simp; omega)]
  simp [List.map_take, List.map_drop]

theorem from_good {d l : List Int} {w V V2 W5 w6 W7 w7 : World} {P N : Nat} {X1 X2 : List Value} (hok : okS d l) (hN : N = d.length + l.length) (hV : Fr No w V) (hP : P = V.heap.size) (hV2 : Fr No V V2) (h5 : Fr No V2 W5) (h6 : Fr (· = P) W5 w6) (h7 : Fr No w6 W7) (h8 : Fr (· = P) W7 w7)
    (hX1 : X1 = d.map (Value.int .u8)) (hX2 : X2 = l.map (Value.int .u8)) (hb : Blk w7 P (splice (ccells (splice z128 0 d) d.length N) (1 + d.length) X2) 70) :
    FromPost d l w (.returned (.tuple #[.pointer (some ⟨P, 0, none⟩), .nilIface])) w7 := by
  subst hP hN hX2
  unfold FromPost
  have hle := hok.1
  have hz : (splice z128 0 d).length = 128 := by rw [length_splice _ _ _ (by rw [z128_length]; omega)]; exact z128_length
  rw [splice_cells2 _ _ hz hle] at hb
  refine .inl ⟨hok, _, rfl, hV.size, ⟨by simp, by simpa using hle, _, ?_, ?_, by simpa using hb⟩, ?_⟩
  · rw [length_splice _ _ _ (by rw [hz]; omega)]; exact hz
  · unfold splice; simp
    rw [← List.append_assoc, List.take_append_of_le_length (by simp), List.take_of_length_le (by simp)]
  · have h := (((hV.trans hV2 (fun _ _ h => h)).trans h5 (fun _ _ h => h)).below).trans ((Fr.below_of (Below.refl w.heap.size W5) h6 (by have := hV.size; have := hV2.size; have := h5.size; omega) (fun k hk => by have := hV.size; omega)))
    exact Fr.below_of (h.trans (h7.below.mono (by have := hV.size; have := hV2.size; have := h5.size; have := h6.size; omega))) h8 (by have := hV.size; have := hV2.size; have := h5.size; have := h6.size; have := h7.size; omega) (fun k hk => by have := hV.size; omega)

set_option maxRecDepth 100000 in
set_option maxHeartbeats 6400000 in
theorem from_scan_calls (d l : List Int) (v1 v2 : Value) (w : World) (h1 : BSl w v1 d) (h2 : BSl w v2 l) (g1 : InB d) (g2 : InB l) (hk : KeysAt w) (hs : d.length + l.length ≤ 128) (hs2 : d.length + l.length = 128 → l = []) :
    Calls Tryd.prog 11 #[.agg #[v1, v2]] w (FromPost d l w) := by
  obtain ⟨a1, c1, rfl⟩ := h1.shape
  obtain ⟨a2, c2, rfl⟩ := h2.shape
  have hsum : (d.length : Int) + l.length = (d.length + l.length : Nat) := by omega
  obtain ⟨N, hN⟩ : ∃ N, N = d.length + l.length := ⟨_, rfl⟩
  rw [← hN] at hs hs2 hsum
  have hd1 : d.length ≤ N := by omega
  have hl1 : l.length ≤ N := by omega
  have FIN := Lib.hid (fun (W : World) (F : Nat) (h : ¬ okS d l) => @from_fault d l w W F h)
  have BADD := Lib.hid (show (∃ x ∈ d, Nev x) → ¬ okS d l from fun ⟨x, hx, hn⟩ h => h.2.2.1 x hx hn)
  have BADL := Lib.hid (show (∃ x ∈ l, NevL x) → ¬ okS d l from fun ⟨x, hx, hn⟩ h => by
    have := h.2.2.2 x hx
    rcases hn with h3 | h3 | h3
    · exact this.1 h3
    · exact this.2.1 h3
    · exact this.2.2 h3)
  have GOOD := Lib.hid (show (∀ x ∈ d, ¬ Nev x) → (∀ x ∈ l, ¬ NevL x) → okS d l from fun h3 h4 => ⟨by omega, fun h => hs2 (by omega), h3, fun x hx => ⟨fun h => h4 x hx (.inl h), fun h => h4 x hx (.inr (.inl h)), fun h => h4 x hx (.inr (.inr h))⟩⟩)
  have HN := Lib.hid hN; clear hN
  have H1 := Lib.hid h1; clear h1
  have HLOW2 := Lib.hid h2.lowb
  have H2 := Lib.hid h2; clear h2
  have G1 := Lib.hid g1; clear g1
  have G2 := Lib.hid g2; clear g2
  have HK := Lib.hid hk; clear hk
  have t0 : decide ((128 : Int) < (N : Int)) = false := by simp; omega
  by_cases h8 : N = 128
  case' pos =>
    have hl0 : l.length = 0 := by rw [hs2 h8]; rfl
    have t1 : decide ((0 : Int) < (l.length : Int)) = false := by rw [decide_eq_false_iff_not]; omega
    have t3 : decide (0 < l.length) = false := by rw [decide_eq_false_iff_not]; omega
    have t2 : ((N : Int) == 128) = true := by simp [h8]
    clear hl0 hs2
  case' neg =>
    have t2 : ((N : Int) == 128) = false := by rw [beq_eq_false_iff_ne]; omega
    clear hs2
  all_goals
    have H8 := Lib.hid h8; clear h8
    go_enter Tryd.func11, Tryd.ntmps11
    go_upto_region 3 with fail
    generalize hW : w.alloc _ = W
    have F0 : Fr No w W := by rw [← hW]; exact (Fr.refl _ _).alloc _
    have hB : Blk W w.heap.size [.slice a1 d.length c1, .slice a2 l.length c2] 24 := by rw [← hW]; exact Blk.new w _ _
    clear hW
    have HF0 := Lib.hid F0; clear F0
    have HB := Lib.hid hB; clear hB
    go_wp2_with fail
    go_loopg [5, 6] d.length (fun g bad i wr => ∃ (k : Nat) (B : Bool), g = d.length - k ∧ bad = .bool B ∧ i = .int .i64 k ∧ Scan Nev d k B ∧ Fr No W wr)
    case atStart => exact ⟨0, false, rfl, rfl, rfl, Scan.zero _ _, Fr.refl _ _⟩
    case round =>
      obtain ⟨k, B, rfl, rfl, rfl, hsc, hf⟩ := hrel
      have hkle := hsc.le
      have HSC := Lib.hid hsc; clear hsc
      have hb := HB.out.fr hf id
      have s0 : wr.cell? ⟨w.heap.size, 0, none⟩ = some (.slice a1 d.length c1) := hb.cell 0
      have s1 : wr.cell? ⟨w.heap.size, 1, none⟩ = some (.slice a2 l.length c2) := hb.cell 1
      have HF := Lib.hid hf; clear hf hb
      cases B
      · by_cases hlt : k < d.length
        · obtain ⟨b, o, rfl, cb⟩ := bsl_cell (H1.out.no (HF0.out.trans HF.out (fun _ _ h => h))) k hlt
          obtain ⟨x, hx⟩ : ∃ x, x = d[k] := ⟨_, rfl⟩
          rw [← hx] at cb
          have hr := G1.out x (by rw [hx]; exact List.getElem_mem hlt)
          obtain ⟨bb, hbb, hcall⟩ := never_any x hr wr (HK.out.no (HF0.out.trans HF.out (fun _ _ h => h)))
          have HNX := Lib.hid (HSC.out.next hlt (bb := bb) (by rw [hbb, hx])); clear hbb hx
          have HCALL := Lib.hid hcall; clear hcall
          go_wp2_with (go_at_call 34; refine HCALL.out.mono ?_; rintro e w5 ⟨rfl, hf5⟩; have HF5 := Lib.hid hf5; clear hf5)
          go_roundg (d.length - (k + 1))
          case measure => omega
          case rel => exact ⟨k + 1, bb, rfl, rfl, by go_num, HNX.out, HF.out.trans HF5.out (fun _ _ h => h)⟩
        · have he : k = d.length := by omega
          subst he
          have HALL := Lib.hid HSC.out.all
          clear HSC hkle
          go_wp2_with fail
          generalize hV : wr = V at *
          have HFV := HF
          go_loopg [5, 7] l.length (fun g bad i wx => ∃ (k : Nat) (B : Bool), g = l.length - k ∧ bad = .bool B ∧ i = .int .i64 k ∧ Scan NevL l k B ∧ Fr No V wx)
          case atStart => exact ⟨0, false, rfl, rfl, rfl, Scan.zero _ _, Fr.refl _ _⟩
          case round =>
            obtain ⟨k, B, rfl, rfl, rfl, hsc, hf⟩ := hrel
            have hkle := hsc.le
            have HSC := Lib.hid hsc; clear hsc
            have hfw := HFV.out.trans hf (fun _ _ h => h)
            have hb := HB.out.fr hfw id
            have s0 : wr.cell? ⟨w.heap.size, 0, none⟩ = some (.slice a1 d.length c1) := hb.cell 0
            have s1 : wr.cell? ⟨w.heap.size, 1, none⟩ = some (.slice a2 l.length c2) := hb.cell 1
            have HF := Lib.hid hf; clear hf hb
            have HFW := Lib.hid hfw; clear hfw
            cases B
            · by_cases hlt : k < l.length
              · obtain ⟨b, o, rfl, cb⟩ := bsl_cell (H2.out.no (HF0.out.trans HFW.out (fun _ _ h => h))) k hlt
                obtain ⟨x, hx⟩ : ∃ x, x = l[k] := ⟨_, rfl⟩
                rw [← hx] at cb
                have hr := G2.out x (by rw [hx]; exact List.getElem_mem hlt)
                obtain ⟨bb, hbb, hcall⟩ := never_any x hr wr (HK.out.no (HF0.out.trans HFW.out (fun _ _ h => h)))
                have HCALL := Lib.hid hcall; clear hcall
                have STEP := Lib.hid (show ∀ B2 : Bool, (B2 = true ↔ NevL x) → Scan NevL l (k + 1) B2 from fun B2 h => HSC.out.next hlt (by rw [h, hx]))
                clear hx
                cases bb
                · by_cases h10 : x = 10
                  · have u1 : (x == 10) = true := by simp [h10]
                    have HNX := Lib.hid (STEP.out true (by simp [NevL, h10])); clear h10 hbb
                    go_wp2_with (go_at_call 34; refine HCALL.out.mono ?_; rintro e w5 ⟨rfl, hf5⟩; have hb5 := HB.out.fr (HFW.out.trans hf5 (fun _ _ h => h)) id; have s2 : w5.cell? ⟨w.heap.size, 1, none⟩ = some (.slice (some ⟨b, o, none⟩) l.length c2) := hb5.cell 1; have cb5 := hf5.cell cb id; have HF5 := Lib.hid hf5; clear hf5 hb5)
                    go_roundg (l.length - (k + 1))
                    case measure => omega
                    case rel => exact ⟨k + 1, true, rfl, rfl, by go_num, HNX.out, HF.out.trans HF5.out (fun _ _ h => h)⟩
                  · by_cases h4 : x = 4
                    · have u1 : (x == 10) = false := by simp [h10]
                      have u2 : (x == 4) = true := by simp [h4]
                      have HNX := Lib.hid (STEP.out true (by simp [NevL, h4])); clear h10 h4 hbb
                      go_wp2_with (go_at_call 34; refine HCALL.out.mono ?_; rintro e w5 ⟨rfl, hf5⟩; have hb5 := HB.out.fr (HFW.out.trans hf5 (fun _ _ h => h)) id; have s2 : w5.cell? ⟨w.heap.size, 1, none⟩ = some (.slice (some ⟨b, o, none⟩) l.length c2) := hb5.cell 1; have cb5 := hf5.cell cb id; have HF5 := Lib.hid hf5; clear hf5 hb5)
                      go_roundg (l.length - (k + 1))
                      case measure => omega
                      case rel => exact ⟨k + 1, true, rfl, rfl, by go_num, HNX.out, HF.out.trans HF5.out (fun _ _ h => h)⟩
                    · have u1 : (x == 10) = false := by simp [h10]
                      have u2 : (x == 4) = false := by simp [h4]
                      have HNX := Lib.hid (STEP.out false (by
                        have : ¬ Nev x := by rw [← hbb]; simp
                        simp [NevL, h10, h4, this])); clear h10 h4 hbb
                      go_wp2_with (go_at_call 34; refine HCALL.out.mono ?_; rintro e w5 ⟨rfl, hf5⟩; have hb5 := HB.out.fr (HFW.out.trans hf5 (fun _ _ h => h)) id; have s2 : w5.cell? ⟨w.heap.size, 1, none⟩ = some (.slice (some ⟨b, o, none⟩) l.length c2) := hb5.cell 1; have cb5 := hf5.cell cb id; have HF5 := Lib.hid hf5; clear hf5 hb5)
                      go_roundg (l.length - (k + 1))
                      case measure => omega
                      case rel => exact ⟨k + 1, false, rfl, rfl, by go_num, HNX.out, HF.out.trans HF5.out (fun _ _ h => h)⟩
                · have HNX := Lib.hid (STEP.out true (by
                    have : Nev x := by rw [← hbb]
                    simp [NevL, this])); clear hbb
                  go_wp2_with (go_at_call 34; refine HCALL.out.mono ?_; rintro e w5 ⟨rfl, hf5⟩; have HF5 := Lib.hid hf5; clear hf5)
                  go_roundg (l.length - (k + 1))
                  case measure => omega
                  case rel => exact ⟨k + 1, true, rfl, rfl, by go_num, HNX.out, HF.out.trans HF5.out (fun _ _ h => h)⟩
              · have he : k = l.length := by omega
                subst he
                have HOK := Lib.hid (GOOD.out HALL.out HSC.out.all)
                clear HSC hkle
                have hz := zcon_run
                have hn := zcon_ne
                have hm1 : ¬ zcon.size < 130 := by simp [zcon, z128_length]
                have hm2 : ¬ zcon.size < 131 := by simp [zcon, z128_length]
                have hset := zcon_set3 d.length N
                obtain ⟨C, hC⟩ : ∃ C, C = (ccells z128 d.length N).toArray := ⟨_, rfl⟩
                rw [← hC] at hset
                have HC := Lib.hid hC; clear hC
                go_wp2_with fail
                have HV := Lib.hid (HF0.out.trans HFW.out (fun _ _ h => h))
                generalize hV2 : wr.alloc _ = V2
                have FV2 : Fr No wr V2 := by rw [← hV2]; exact (Fr.refl _ _).alloc _
                have hBP : Blk V2 wr.heap.size (ccells z128 d.length N) 70 := by rw [← hV2, HC.out]; exact Blk.new wr _ _
                clear hV2 hz hn hm1 hm2 hset s0 s1
                obtain ⟨P, hP⟩ : ∃ P, P = wr.heap.size := ⟨_, rfl⟩
                rw [← hP] at hBP ⊢
                have hPw : w.heap.size < P := by rw [hP]; exact (HB.out.fr HFW.out id).lt
                have HP := Lib.hid hP; clear hP
                have HFV2 := Lib.hid FV2; clear FV2
                have hb2 := (HB.out.fr HFW.out id).fr HFV2.out id
                have s0 : V2.cell? ⟨w.heap.size, 0, none⟩ = some (.slice a1 d.length c1) := hb2.cell 0
                clear hb2
                have HBP := Lib.hid hBP; clear hBP
                obtain ⟨X1, hX1⟩ : ∃ X1, X1 = d.map (Value.int .u8) := ⟨_, rfl⟩
                have hX1l : X1.length = d.length := by rw [hX1]; simp
                have HX1 := Lib.hid hX1; clear hX1
                have HX1L := Lib.hid hX1l; clear hX1l
                obtain ⟨X2, hX2⟩ : ∃ X2, X2 = l.map (Value.int .u8) := ⟨_, rfl⟩
                have hX2l : X2.length = l.length := by rw [hX2]; simp
                have HX2 := Lib.hid hX2; clear hX2
                have HX2L := Lib.hid hX2l; clear hX2l
                go_still_tail 6, (by kernel_rfl)
                change wpList _ _ _ _ _ V2.drew
                obtain ⟨W5, hW5⟩ : ∃ W5 : World, W5 = V2.drew := ⟨_, rfl⟩
                rw [← hW5]
                have hFW5 : Fr No V2 W5 := by rw [hW5]; exact (Fr.refl _ _).drew
                clear hW5
                have HFW5 := Lib.hid hFW5; clear hFW5
                have hdP : d.length ≤ 128 := by omega
                have HSRC1 := Lib.hid (bsl_src (H1.out.no ((HV.out.trans HFV2.out (fun _ _ h => h)).trans HFW5.out (fun _ _ h => h))))
                refine wpList_copy_fr rfl (.tmp 92) (.tmp 94) 22 22 rfl 5 Tryd.underlying22 (by kernel_rfl) _ _ _ _ _ _ rfl rfl P 1 (ccells z128 d.length N) 70 (HBP.out.fr HFW5.out id) X1 ?hn ?hps ?hfit ?h1 ?_
                case hn => rw [HX1L.out]; omega
                case hps => exact fun hp => ⟨rfl, by rw [HX1.out]; exact HSRC1.out (by rw [HX1L.out] at hp; exact hp)⟩
                case hfit => rw [HX1L.out]; simp [ccells, z128_length]; omega
                case h1 => rw [HX1.out]; exact ints_oneCell _ _
                intro w6 hG6 hF6
                have hG := hG6.out
                rw [HX1.out, splice_cells _ z128_length hdP] at hG
                have hz1 : (splice z128 0 d).length = 128 := by rw [length_splice _ _ _ (by rw [z128_length]; omega)]; exact z128_length
                have q1 : w6.cell? ⟨P, 129, none⟩ = some (.int .i64 d.length) := (hG.cell 129).trans (ccells_tail hz1 0)
                have HZ1 := Lib.hid hz1; clear hz1
                have hb6 := (((HB.out.fr HFW.out id).fr HFV2.out id).fr HFW5.out id).fr hF6 (fun h => by omega)
                have q2 : w6.cell? ⟨w.heap.size, 1, none⟩ = some (.slice a2 l.length c2) := hb6.cell 1
                have HG := Lib.hid hG
                have HF6 := Lib.hid hF6
                clear hG hG6 hF6 hb6 s0
                have y0 : (0 : Int) ≤ d.length := by omega
                have y1 : (d.length : Int) ≤ 128 := by omega
                by_cases hd8 : d.length = 128
                · have hl0 : l.length = 0 := by have := HN.out; omega
                  have y2 : (d.length : Int) = 128 := by omega
                  have HD8 := Lib.hid hd8; clear hd8
                  go_wp2_with fail
                  go_still_tail 10, (by kernel_rfl)
                  change wpList _ _ _ _ _ w6.drew
                  obtain ⟨W7, hW7⟩ : ∃ W7 : World, W7 = w6.drew := ⟨_, rfl⟩
                  rw [← hW7]
                  have hFW7 : Fr No w6 W7 := by rw [hW7]; exact (Fr.refl _ _).drew
                  clear hW7
                  have HFW7 := Lib.hid hFW7; clear hFW7
                  refine wpList_copy_fr rfl (.tmp 103) (.tmp 105) 22 22 rfl 5 Tryd.underlying22 (by kernel_rfl) _ _ _ _ _ _ rfl rfl P (1 + d.length) (ccells (splice z128 0 d) d.length N) 70 (HG.out.fr HFW7.out id) X2 ?hn ?hps ?hfit ?h1 ?_
                  case hn => have := HX2L.out; omega
                  case hps => exact fun hp => by have := HX2L.out; omega
                  case hfit => rw [HX2L.out]; simp [ccells, HZ1.out]; have := HN.out; omega
                  case h1 => rw [HX2.out]; exact ints_oneCell _ _
                  intro w7 hG7 hF7
                  have FINAL := Lib.hid (from_good HOK.out HN.out HV.out HP.out HFV2.out HFW5.out HF6.out HFW7.out hF7 HX1.out HX2.out hG7.out)
                  clear hG7 hF7
                  go_wp2_with fail
                  go_ret2
                  exact FINAL.out
                · have y2 : ¬ (128 : Int) = d.length := by omega
                  have y3 : ¬ 128 = d.length := by omega
                  go_wp2_with fail
                  go_still_tail 10, (by kernel_rfl)
                  change wpList _ _ _ _ _ w6.drew
                  obtain ⟨W7, hW7⟩ : ∃ W7 : World, W7 = w6.drew := ⟨_, rfl⟩
                  rw [← hW7]
                  have hFW7 : Fr No w6 W7 := by rw [hW7]; exact (Fr.refl _ _).drew
                  clear hW7
                  have HFW7 := Lib.hid hFW7; clear hFW7
                  have HSRC2 := Lib.hid (bsl_src ((((H2.out.no ((HV.out.trans HFV2.out (fun _ _ h => h)).trans HFW5.out (fun _ _ h => h))).low HLOW2.out HF6.out (fun k hk => by omega)).no HFW7.out)))
                  refine wpList_copy_fr rfl (.tmp 103) (.tmp 105) 22 22 rfl 5 Tryd.underlying22 (by kernel_rfl) _ _ _ _ _ _ rfl rfl P (1 + d.length) (ccells (splice z128 0 d) d.length N) 70 (HG.out.fr HFW7.out id) X2 ?hn ?hps ?hfit ?h1 ?_
                  case hn => rw [HX2L.out]; have := HN.out; omega
                  case hps => exact fun hp => ⟨rfl, by rw [HX2.out]; exact HSRC2.out (by rw [HX2L.out] at hp; exact hp)⟩
                  case hfit => rw [HX2L.out]; simp [ccells, HZ1.out]; have := HN.out; omega
                  case h1 => rw [HX2.out]; exact ints_oneCell _ _
                  intro w7 hG7 hF7
                  have FINAL := Lib.hid (from_good HOK.out HN.out HV.out HP.out HFV2.out HFW5.out HF6.out HFW7.out hF7 HX1.out HX2.out hG7.out)
                  clear hG7 hF7
                  go_wp2_with fail
                  go_ret2
                  exact FINAL.out
            · have HBL := Lib.hid (BADL.out (HSC.out.bad rfl)); clear HSC
              go_wp2_with fail
              all_goals
                go_ret2
                exact FIN.out _ _ HBL.out (by simp) (HF0.out.trans HFW.out (fun _ _ h => h))
      · have HBD := Lib.hid (BADD.out (HSC.out.bad rfl)); clear HSC
        go_wp2_with fail
        all_goals
          refine wp_loop_rounds 1 ?_
          rw [rounds_succ]
          go_wp2
          all_goals
            go_ret2
            exact FIN.out _ _ HBD.out (by simp) (HF0.out.trans HF.out (fun _ _ h => h))

end Go.Proofs.YtollgpnaadgncaaDoor
