/- ConsoleParts: the walk. No condition. -/
import Derived.Test.YtollgpnaadgncaaDoorConW
import Derived.Test.YtollgpnaadgncaaDoorPartsLaw
import Derived.Laws.OwnMore
namespace Go.Proofs.YtollgpnaadgncaaDoor
open Go.RowKit

theorem run_append_none' {P : Program} {w : World} (base : Nat) (t ty e : TypeId) (i : TypeInfo) (size c : Nat) (ht : P.underlying t = some (.slice e)) (hi : P.info? e = some i)
    (v : Value) (n : Nat) (xs : List Value) (hown : w.ownsRow base e size v n xs) :
    (Builtin.append_ #[t, t] ty #[v, .slice none 0 c]).run P w = .ok v w := by
  rcases hown.2 with ⟨rfl, rfl⟩ | ⟨g, cap, cur, rfl, _, _, hnc, _⟩
  · simp [Builtin.append_, run_underlying ht, sizeOf, typeInfo, hi, Builtin.lenOf, Builtin.firstCells]
  · simp [Builtin.append_, run_underlying ht, sizeOf, typeInfo, hi, Builtin.lenOf, Builtin.firstCells, hnc, storeCells]

/-- append of bytes to what is the call's own, in an operation that is wanted -/
theorem wpList_append_bytes {w : World} {ops : Array Oper} {rest : List Oper} {o : Oper} {a : Act} {Q : Exit → Act → World → Prop} (hw : Region.wanted o (yielded ops a.tmps) = true) (s x : Operand)
    (ho : o.op = .call { callee := .builtin .append, args := #[s, x], argTypes := #[22, 22] }) (base : Nat) (v y : Value) (xs ys : List Int) (hs : a.eval s = v) (hx : a.eval x = y)
    (hown : Own w base v xs) (hy : BSl w y ys) (hlen : xs.length + ys.length ≤ 140737488355328) (hbase : base ≤ w.heap.size)
    (h : ∀ v' w', w'.ownsRow base 5 1 v' (xs ++ ys).length ((xs ++ ys).map (Value.int .u8)) → Fr (fun k => v.ownBlock = some k) w w' → wpList Tryd.prog ops Q rest (a.put o.dst v') w') :
    wpList Tryd.prog ops Q (o :: rest) a w := by
  obtain ⟨i0, hi, hz0, hz1, hz2⟩ := info_parts infoU8
  obtain ⟨ao, c, rfl, l1, l2, l3, hc⟩ := hy
  refine wpList_step fun K hK => ?_
  rw [if_pos hw]
  cases ao with
  | none =>
    have hys : ys = [] := by
      refine Decidable.byContradiction fun hne => ?_
      obtain ⟨b, o, h0, _⟩ := hc hne; cases h0
    subst hys
    have hrun := run_append_none' (P := Tryd.prog) base 22 o.type 5 i0 1 c Tryd.underlying22 hi v xs.length _ hown.1
    unfold Oper.wp
    simp only [List.length_nil] at hx
    simp [execOp, ho, resolve, invoke, builtin, hs, hx, hrun, Result.andThen]
    exact hK _ _ (h v w (by simpa using hown.1) (Fr.refl _ _))
  | some ad =>
    have hcells : ∀ j u, (ys.map (Value.int .u8))[j]? = some u → w.cell? (ad.add j) = some u := by
      intro j u hj
      have hjl : j < ys.length := by
        refine Decidable.byContradiction fun hh => ?_
        rw [List.getElem?_eq_none (by simp; omega)] at hj; cases hj
      obtain ⟨b, o, h0, hcc⟩ := hc (by intro e; subst e; simp at hjl)
      cases h0
      have := hcc j hjl
      rw [List.getElem?_map, List.getElem?_eq_getElem hjl] at hj
      simp only [Option.map_some, Option.some.injEq] at hj
      rw [List.getElem?_eq_getElem hjl] at this
      simp only [Option.getD_some] at this
      rw [← hj, addr_add]
      exact this
    refine wp_append_own w s x 22 ho base 5 i0 (.int .u8 0) 1 1 Tryd.underlying22 hi hz0 hz1 hz2 rfl (by decide) v xs.length _ hs hown.1 ad ys.length c (ys.map (Value.int .u8)) hx (by simp) hcells
      (by intro u hu; obtain ⟨z, _, rfl⟩ := List.mem_map.1 hu; rfl) (by unfold maxLen; omega) (by omega) hbase ?_
    intro v' w' h2 h3 _
    refine hK _ _ (h v' w' ?_ ((Fr.refl _ w).grown h3 (fun k hk _ => hk)))
    rw [List.length_append, List.map_append]; exact h2

theorem bsl_cell' {w : World} {ao : Option Addr} {c : Nat} {xs : List Int} (h : BSl w (.slice ao xs.length c) xs) (k : Nat) (hk : k < xs.length) : ∃ b o, ao = some ⟨b, o, none⟩ ∧ w.cell? ⟨b, o + k, none⟩ = some (.int .u8 xs[k]) := bsl_cell h k hk

set_option maxRecDepth 100000 in
set_option maxHeartbeats 6400000 in
theorem parts_walk (d l : List Int) (v1 v2 : Value) (m n : Int) (w : World) (h1 : BSl w v1 d) (h2 : BSl w v2 l) (g1 : InB d) (g2 : InB l) (hk : KeysAt w)
    (hm : -9223372036854775808 ≤ m ∧ m ≤ 9223372036854775807) (hn : -9223372036854775808 ≤ n ∧ n ≤ 9223372036854775807) :
    Calls Tryd.prog 7 #[.agg #[v1, v2], .int .i64 m, .int .i64 n] w fun e w' => e = .returned (.bool true) ∧ Below w.heap.size w w' := by
  obtain ⟨a1, c1, rfl⟩ := h1.shape
  obtain ⟨a2, c2, rfl⟩ := h2.shape
  have hdl := h1.len
  have H1 := Lib.hid h1; clear h1
  have H2 := Lib.hid h2; clear h2
  have G1 := Lib.hid g1; clear g1
  have G2 := Lib.hid g2; clear g2
  have HK := Lib.hid hk; clear hk
  have HM := Lib.hid hm; clear hm
  have HNN := Lib.hid hn; clear hn
  go_enter Tryd.func7, Tryd.ntmps7
  go_wp2_with fail
  generalize hW : w.alloc _ = W
  have F0 : Fr No w W := by rw [← hW]; exact (Fr.refl _ _).alloc _
  have hS : Blk W w.heap.size [.slice a1 d.length c1, .slice a2 l.length c2] 24 := by rw [← hW]; exact Blk.new w _ _
  clear hW
  have HS := Lib.hid hS; clear hS
  have HF0 := Lib.hid F0; clear F0
  refine (works_calls W (HK.out.no HF0.out)).mono ?_
  rintro e w1 ⟨rfl, hb1⟩
  have HF1 := Lib.hid (HF0.out.trans (Fr.of_below hb1) (fun _ _ h => h))
  have hS1 := HS.out.fr (Fr.of_below hb1) id
  have hSl := hS1.lt
  have s0 : w1.cell? ⟨w.heap.size, 0, none⟩ = some (.slice a1 d.length c1) := hS1.cell 0
  have s1 : w1.cell? ⟨w.heap.size, 1, none⟩ = some (.slice a2 l.length c2) := hS1.cell 1
  have HS1 := Lib.hid hS1; clear hS1 hb1
  go_wp2_with fail
  refine (from_calls d l _ _ w1 (H1.out.no HF1.out) (H2.out.no HF1.out) G1.out G2.out (HK.out.no HF1.out)).mono ?_
  intro e w2 hp
  unfold FromPost at hp
  rcases hp with ⟨hok, P1, rfl, hP1, hC1, hb2⟩ | ⟨hno, i, rfl, _, hb2⟩
  · have F2 := Fr.of_below hb2
    have HF2 := Lib.hid (HF1.out.trans F2 (fun _ _ h => h))
    have hS2 := HS1.out.fr F2 id
    have s0 : w2.cell? ⟨w.heap.size, 0, none⟩ = some (.slice a1 d.length c1) := hS2.cell 0
    have s1 : w2.cell? ⟨w.heap.size, 1, none⟩ = some (.slice a2 l.length c2) := hS2.cell 1
    have HS2 := Lib.hid hS2
    have HC1 := Lib.hid hC1
    have HOK := Lib.hid hok; clear hok
    clear hS2 hb2 F2 hC1
    go_wp2_with fail
    refine (from_calls d l _ _ w2 (H1.out.no HF2.out) (H2.out.no HF2.out) G1.out G2.out (HK.out.no HF2.out)).mono ?_
    intro e w3 hp
    unfold FromPost at hp
    rcases hp with ⟨_, P2, rfl, hP2, hC2, hb3⟩ | ⟨hno, _⟩
    case inr => exact absurd HOK.out hno
    have F3 := Fr.of_below hb3
    have HF3 := Lib.hid (HF2.out.trans F3 (fun _ _ h => h))
    have hS3 := HS2.out.fr F3 id
    have HC13 := Lib.hid (HC1.out.no F3)
    have HC2 := Lib.hid hC2; clear hC2
    have hPl1 : P1 < w2.heap.size := HC1.out.lt
    have HS3 := Lib.hid hS3; clear hS3 hb3 F3 s0 s1
    have hwP1 : w.heap.size ≤ P1 := by have := HF1.out.size; omega
    have hwP2 : w.heap.size ≤ P2 := by have := HF2.out.size; omega
    have hne : P1 ≠ P2 := by omega
    have hwS : w.heap.size < P1 := by omega
    by_cases hm1 : m < 1
    · go_wp2_with fail
      go_ret
      exact ⟨rfl, HF3.out.below⟩
    by_cases hn1 : n < 1
    · go_wp2_with fail
      go_ret
      exact ⟨rfl, HF3.out.below⟩
    by_cases hm2 : 200 < m
    · go_wp2_with fail
      go_ret
      exact ⟨rfl, HF3.out.below⟩
    by_cases hn2 : 200 < n
    · go_wp2_with fail
      go_ret
      exact ⟨rfl, HF3.out.below⟩
    obtain ⟨M, rfl⟩ := Int.eq_ofNat_of_zero_le (show 0 ≤ m by omega)
    obtain ⟨xs, hxs⟩ : ∃ xs, xs = d ++ l := ⟨_, rfl⟩
    rw [← hxs] at HC13 HC2
    have hrx : d.length ≤ xs.length := by rw [hxs]; simp
    have htk : xs.take d.length = d := by rw [hxs]; simp
    have hx128 : xs.length ≤ 128 := HC2.out.2.1
    have HXS := Lib.hid hxs; clear hxs
    have HTK := Lib.hid htk; clear htk
    go_wp2_with fail
    refine (take_calls P1 xs d.length (M : Int) w3 HC13.out (by omega) (by omega)).mono ?_
    intro e w4 hp
    unfold TakePost at hp
    obtain ⟨v4, rfl, ho4, hC4, hf4⟩ := hp
    have HB4 := Lib.hid (Fr.below_of HF3.out.below hf4 HF3.out.size (fun k hk => by rw [hk]; exact hwP1))
    have hS4 := HS3.out.fr hf4 (fun h => by omega)
    have s0 : w4.cell? ⟨w.heap.size, 0, none⟩ = some (.slice a1 d.length c1) := hS4.cell 0
    clear hS4
    have HC24 := Lib.hid (HC2.out.fr hf4 (fun h => hne h.symm))
    obtain ⟨X, hX⟩ : ∃ X, X = takeL (M : Int) xs d.length := ⟨_, rfl⟩
    rw [← hX] at ho4
    have hKr : giveK (M : Int) d ≤ d.length := giveK_le _ _
    have hKm : giveK (M : Int) d ≤ M := by unfold giveK; split; omega; split; omega; omega
    obtain ⟨xa, xc, rfl⟩ := ho4.shape
    have HO4 := Lib.hid ho4; clear ho4
    have HC4 := Lib.hid hC4; clear hC4
    have HF4 := Lib.hid hf4; clear hf4
    by_cases hr0 : d.length = 0
    · have e0 : decide (0 < d.length) = false := by simp [hr0]
      rw [e0]
      have HR0 := Lib.hid hr0; clear hr0 e0
      go_wp2_with fail
      go_ret
      exact ⟨rfl, HB4.out⟩
    have e0 : decide (0 < d.length) = true := decide_eq_true (by omega)
    rw [e0]
    have hXl : X.length = giveK (M : Int) d := by
      rw [hX]; unfold takeL; rw [if_neg hr0, HTK.out]; simp; omega
    have HX := Lib.hid hX; clear hX e0
    by_cases hKM : giveK (M : Int) d < M
    · have q1 : (X.length : Int) < M := by omega
      have HXL := Lib.hid hXl; clear hXl
      go_wp2_with fail
      go_ret
      exact ⟨rfl, HB4.out⟩
    have hXM : X.length = M := by omega
    have q1 : ¬ (X.length : Int) < M := by omega
    have q2 : (1 : Int) ≤ X.length := by omega
    obtain ⟨b4, o4, rfl, cb⟩ := bsl_cell' (HO4.out.bsl (by omega)) (M - 1) (by omega)
    obtain ⟨z, hz⟩ : ∃ z, z = X[M - 1]'(by omega) := ⟨_, rfl⟩
    rw [← hz] at cb
    obtain ⟨J, hJ⟩ : ∃ J, J = M - 1 := ⟨_, rfl⟩
    rw [← hJ] at cb
    have q3 : (X.length : Int) - 1 = J := by omega
    have q4 : (0 : Int) ≤ J := by omega
    have q5 : (J : Int) < X.length := by omega
    have q9 : (J : Int) ≤ 200 := by omega
    have hz2 : X[J]? = some z := by
      have e : X[M - 1]? = some z := by rw [hz]; exact List.getElem?_eq_getElem _
      rw [hJ]; exact e
    have HZ2 := Lib.hid hz2; clear hz2 hz
    have HJ := Lib.hid hJ; clear hJ
    have HXL := Lib.hid hXl; clear hXl
    have HXM := Lib.hid hXM; clear hXM
    by_cases hz10 : z = 10
    · have u1 : (z == 10) = true := by simp [hz10]
      have HZ := Lib.hid hz10; clear hz10
      go_wp2_with fail
      go_ret
      exact ⟨rfl, HB4.out⟩
    have u1 : (z == 10) = false := by simp [hz10]
    have HZ := Lib.hid hz10; clear hz10
    by_cases hr4 : M < d.length ∧ d[M]? = some 4
    · obtain ⟨hrM, hd4⟩ := hr4
      obtain ⟨b5, o5, rfl, cd⟩ := bsl_cell' ((H1.out.no HF3.out).low H1.out.lowb HF4.out (fun k hk => by omega)) M hrM
      have cd4 : w4.cell? ⟨b5, o5 + M, none⟩ = some (.int .u8 4) := by
        rw [cd]; rw [List.getElem?_eq_getElem hrM] at hd4
        simpa using hd4
      clear cd
      have HD4 := Lib.hid hd4; clear hd4
      have q6 : (M : Int) < d.length := by omega
      go_wp2_with fail
      go_ret
      exact ⟨rfl, HB4.out⟩
    have HD4 := Lib.hid hr4; clear hr4
    have LAW := Lib.hid (show takeL (M : Int) xs d.length = xs.take M ∧ takeU (M : Int) xs d.length = M ∧ takeU ((M : Int) + n) xs d.length = M + takeU n (xs.drop M) (d.length - M) ∧ takeL ((M : Int) + n) xs d.length = xs.take M ++ takeL n (xs.drop M) (d.length - M) from by
      have hK : giveK (M : Int) (xs.take d.length) = M := by rw [HTK.out]; omega
      refine parts_law hrx (by omega) (by omega) (by omega) hK (by omega) ?_ ?_
      · rw [HTK.out]
        intro h10
        have hXt : X = xs.take M := by
          rw [HX.out]; unfold takeL; rw [if_neg hr0, hK]
        have := HZ2.out
        rw [hXt, List.getElem?_take, if_pos (by have := HJ.out; omega)] at this
        rw [← HTK.out, List.getElem?_take, if_pos (by omega)] at h10
        rw [← HJ.out, this] at h10
        exact HZ.out (by simpa using h10)
      · intro hlt
        rw [HTK.out]
        exact fun h => HD4.out ⟨hlt, h⟩)
    have hMr : M ≤ d.length := by have := HXL.out; have := HXM.out; omega
    have hC4 := HC4.out
    rw [LAW.out.2.1] at hC4
    have HC4b := Lib.hid hC4; clear hC4
    by_cases hrM : M < d.length
    case' pos =>
      obtain ⟨b5, o5, rfl, cd⟩ := bsl_cell' ((H1.out.no HF3.out).low H1.out.lowb HF4.out (fun k hk => by omega)) M hrM
      obtain ⟨y, hy⟩ : ∃ y, y = d[M] := ⟨_, rfl⟩
      rw [← hy] at cd
      have u2 : (y == 4) = false := by
        rw [beq_eq_false_iff_ne]
        intro h4
        exact HD4.out ⟨hrM, by rw [List.getElem?_eq_getElem hrM, ← hy, h4]⟩
      have q6 : (M : Int) < d.length := by omega
      clear hy
    case' neg =>
      have q6 : ¬ (M : Int) < d.length := by omega
    all_goals
      clear hrM
      go_wp2_with fail
      refine (take_calls P1 (xs.drop M) (d.length - M) n w4 HC4b.out (by omega) (by omega)).mono ?_
      intro e w5 hp
      unfold TakePost at hp
      obtain ⟨v5, rfl, ho5, hC5, hf5⟩ := hp
      obtain ⟨Y, hY⟩ : ∃ Y, Y = takeL n (xs.drop M) (d.length - M) := ⟨_, rfl⟩
      obtain ⟨U, hU⟩ : ∃ U, U = takeU n (xs.drop M) (d.length - M) := ⟨_, rfl⟩
      rw [← hY] at ho5
      rw [← hU] at hC5
      obtain ⟨ya, yc, rfl⟩ := ho5.shape
      have HY := Lib.hid hY; clear hY
      have HU := Lib.hid hU; clear hU
      obtain ⟨ff, hff⟩ : ∃ ff, ff = decide (0 < d.length - M) := ⟨_, rfl⟩
      rw [← hff]
      clear hff
      have HB5 := Lib.hid (Fr.below_of HB4.out hf5 HB4.out.size (fun k hk => by rw [hk]; exact hwP1))
      have HO5 := Lib.hid ho5; clear ho5
      have HC5 := Lib.hid hC5; clear hC5
      have HX5 := Lib.hid (HO4.out.fr hf5 (fun k hk hh => by have := (HO4.out.lt k hk).1; have := HC13.out.lt; omega))
      have HC25 := Lib.hid (HC24.out.fr hf5 (fun h => hne h.symm))
      have hP2l : P2 < w4.heap.size := HC24.out.lt
      have hP1l : P1 < w4.heap.size := HC4b.out.lt
      have hP2l3 : P2 < w3.heap.size := HC2.out.lt
      have hw5 : w4.heap.size ≤ w5.heap.size := hf5.size
      clear hf5 cb s0
      have q7 : (0 : Int) ≤ (M : Int) + n := by omega
      have q8 : (M : Int) + n ≤ 400 := by omega
      go_wp2_with fail
      refine (take_calls P2 xs d.length ((M : Int) + n) w5 HC25.out (by omega) (by omega)).mono ?_
      intro e w6 hp
      unfold TakePost at hp
      rw [show decide (0 < d.length) = true from decide_eq_true (by omega)] at hp
      obtain ⟨v6, rfl, ho6, hC6, hf6⟩ := hp
      rw [LAW.out.2.2.2, ← HY.out] at ho6
      rw [LAW.out.2.2.1, ← HU.out] at hC6
      have hXX : xs.take M = X := by rw [HX.out, LAW.out.1]
      rw [hXX] at ho6
      clear hXX
      obtain ⟨Z, hZ⟩ : ∃ Z, Z = X ++ Y := ⟨_, rfl⟩
      rw [← hZ] at ho6
      obtain ⟨za, zc, rfl⟩ := ho6.shape
      have hYl : Y.length ≤ 128 := by
        rw [HY.out]; unfold takeL
        split
        · simp
        · simp; omega
      have HZZ := Lib.hid hZ; clear hZ
      have HB6 := Lib.hid (Fr.below_of HB5.out hf6 HB5.out.size (fun k hk => by rw [hk]; exact hwP2))
      have HX6 := Lib.hid (HX5.out.fr hf6 (fun k hk hh => by have := (HO4.out.lt k hk).1; omega))
      have HY6 := Lib.hid (HO5.out.fr hf6 (fun k hk hh => by have := (HO5.out.lt k hk).1; omega))
      have HO6 := Lib.hid ho6; clear ho6
      have HC16 := Lib.hid (HC5.out.fr hf6 hne)
      have HC26 := Lib.hid hC6; clear hC6
      have hw6 : w5.heap.size ≤ w6.heap.size := hf6.size
      have hw3 : w3.heap.size ≤ w4.heap.size := HF4.out.size
      have hXl3 : X.length ≤ 200 := by have := HXM.out; omega
      clear hf6
      have hDD : (xs.drop M).drop U = xs.drop (M + U) := List.drop_drop
      have hRR : d.length - M - U = d.length - (M + U) := Nat.sub_sub _ _ _
      have hc16 := HC16.out
      rw [hDD, hRR] at hc16
      obtain ⟨E, hE⟩ : ∃ E, E = xs.drop (M + U) := ⟨_, rfl⟩
      obtain ⟨R, hR⟩ : ∃ R, R = d.length - (M + U) := ⟨_, rfl⟩
      have hc26 := HC26.out
      rw [← hE, ← hR] at hc16 hc26
      have HC16' := Lib.hid hc16
      have HC26' := Lib.hid hc26
      clear hDD hRR hc16 hc26 hE hR
      go_wp2_with (at_builtin; refine wpList_append_bytes (by rfl) (.tmp 109) (.tmp 110) rfl w3.heap.size _ _ X Y rfl rfl HX6.out (HY6.out.bsl (by omega)) ?_ ?_ ?_)
      · omega
      · omega
      intro v7 w7 hown7 hf7
      have hZl : (X ++ Y).length ≤ 400 := by simp; omega
      have hb7 := BSl.of_own (show w7.ownsRow w3.heap.size 5 1 v7 (X ++ Y).length ((X ++ Y).map (Value.int .u8)) by rw [List.length_append, List.map_append]; exact hown7) (by omega)
      rw [← HZZ.out] at hb7
      have hXb : ∀ k, (Value.slice (some ⟨b4, o4, none⟩) X.length xc).ownBlock = some k → w3.heap.size ≤ k ∧ k < w4.heap.size := fun k hk => HO4.out.lt k hk
      have hZo : ∀ k, (Value.slice za Z.length zc).ownBlock = some k → w5.heap.size ≤ k := fun k hk => (HO6.out.lt k hk).1
      have HZ7 := Lib.hid ((HO6.out.bsl (by rw [HZZ.out]; omega)).fr hf7 (fun k hk hh => by have := hXb k hh; have := hZo k hk; omega))
      have HC17 := Lib.hid (HC16'.out.fr hf7 (fun hh => by have := hXb _ hh; omega))
      have HC27 := Lib.hid (HC26'.out.fr hf7 (fun hh => by have := hXb _ hh; omega))
      have HB7 := Lib.hid (Fr.below_of HB6.out hf7 HB6.out.size (fun k hk => by have := hXb k hk; have := HF3.out.size; omega))
      obtain ⟨va, vc, rfl⟩ := hb7.shape
      have HBS7 := Lib.hid hb7
      clear hb7 hown7 hf7 hXb hZo hZl
      go_wp2_with fail
      refine (bytes_calls Z Z _ _ w7 HBS7.out HZ7.out).mono ?_
      rintro e w8 ⟨rfl, k8, rfl⟩
      rw [show decide (Z = Z) = true from decide_eq_true rfl]
      have F8 : Fr No w7 (w7.drewN k8) := (Fr.refl No w7).drewN k8
      generalize hw8 : w7.drewN k8 = w8 at *
      clear hw8
      have HC18 := Lib.hid (HC17.out.no F8)
      have HC28 := Lib.hid (HC27.out.no F8)
      have HF8 := Lib.hid ((Fr.of_below HB7.out).trans F8 (fun _ _ h => h)); clear F8
      go_wp2_with fail
      refine (state_calls P1 E R w8 HC18.out).mono ?_
      intro e w9 hp
      unfold StatePost at hp
      obtain ⟨p1, p2, rfl, hp1, hp2, _, hb9⟩ := hp
      have F9 := Fr.of_below hb9
      have HC29 := Lib.hid (HC28.out.no F9)
      have HF9 := Lib.hid (HF8.out.trans F9 (fun _ _ h => h))
      have hE128 : E.length ≤ 128 := HC28.out.2.1
      have HP1 := Lib.hid (hp1.bsl (by simp; omega))
      have HP2 := Lib.hid (hp2.bsl (by simp; omega))
      clear hp1 hp2 hb9 F9
      go_wp2_with fail
      refine (state_calls P2 E R w9 HC29.out).mono ?_
      intro e w10 hp
      unfold StatePost at hp
      obtain ⟨p3, p4, rfl, hp3, hp4, _, hb10⟩ := hp
      have F10 := Fr.of_below hb10
      have HF10 := Lib.hid (HF9.out.trans F10 (fun _ _ h => h))
      have HP1' := Lib.hid (HP1.out.no F10)
      have HP2' := Lib.hid (HP2.out.no F10)
      have HP3 := Lib.hid (hp3.bsl (by simp; omega))
      have HP4 := Lib.hid (hp4.bsl (by simp; omega))
      clear hp3 hp4 hb10 F10
      go_wp2_with fail
      refine (states_calls (E.take R) (E.drop R) _ _ _ _ w10 HP1'.out HP2'.out HP3.out HP4.out).mono ?_
      rintro e w11 ⟨rfl, hf11⟩
      have HF11 := Lib.hid (HF10.out.trans hf11 (fun _ _ h => h)); clear hf11
      go_wp2_with fail
      go_ret
      exact ⟨rfl, HF11.out.below⟩
  · have F2 := Fr.of_below hb2
    have HF2 := Lib.hid (HF1.out.trans F2 (fun _ _ h => h))
    have hS2 := HS1.out.fr F2 id
    have s0 : w2.cell? ⟨w.heap.size, 0, none⟩ = some (.slice a1 d.length c1) := hS2.cell 0
    have s1 : w2.cell? ⟨w.heap.size, 1, none⟩ = some (.slice a2 l.length c2) := hS2.cell 1
    have HNO := Lib.hid hno; clear hno
    clear hS2 hb2 F2
    go_wp2_with fail
    refine (from_calls d l _ _ w2 (H1.out.no HF2.out) (H2.out.no HF2.out) G1.out G2.out (HK.out.no HF2.out)).mono ?_
    intro e w3 hp
    unfold FromPost at hp
    rcases hp with ⟨hok, _⟩ | ⟨_, i2, rfl, _, hb3⟩
    case inl => exact absurd hok HNO.out
    have HF3 := Lib.hid (HF2.out.trans (Fr.of_below hb3) (fun _ _ h => h)); clear hb3 s0 s1
    go_wp2_with fail
    go_ret
    exact ⟨rfl, HF3.out.below⟩

end Go.Proofs.YtollgpnaadgncaaDoor
