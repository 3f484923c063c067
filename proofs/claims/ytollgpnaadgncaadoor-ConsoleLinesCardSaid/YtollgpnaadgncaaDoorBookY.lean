/- hartixlaw11.Book: typed: a byte that is taken; joined. No condition. -/
import Derived.Test.YtollgpnaadgncaaDoorBookX
namespace Go.Proofs.YtollgpnaadgncaaDoor
open Go.RowKit

theorem ints_one' (xs : List Int) : ∀ y ∈ xs.map (Value.int .u8), y.oneCell' = true := by
  intro y hy; obtain ⟨z, _, rfl⟩ := List.mem_map.1 hy; rfl

set_option maxRecDepth 100000 in
set_option maxHeartbeats 6400000 in
theorem typed_go (base B : Nat) (dv lv : Value) (D : List Int) (G : Nat) (L : List Int) (c : Int) (w : World) (h : BookAt w base B dv lv D G L) (hG : G ≤ D.length) (hD : D.length ≤ 100000) (hl : (D.drop G).length + L.length < 128) (hl2 : (D.drop G).length + L.length + 1 < 128) (hc : c ≠ 21 ∧ c ≠ 8 ∧ c ≠ 127 ∧ c ≠ 0 ∧ c ≠ 4 ∧ c ≠ 10 ∧ c ≠ 13) :
    Calls Tryd.prog 29 #[.pointer (some ⟨B, 0, none⟩), .int .u8 c] w (TypedPost base B dv lv D G L c w) := by
  obtain ⟨i0, hi, hz0, hz1, hz2⟩ := info_parts infoU8
  have u21 : (c == 21) = false := by simp; omega
  have u8 : (c == 8) = false := by simp; omega
  have u127 : (c == 127) = false := by simp; omega
  have u0 : (c == 0) = false := by simp; omega
  have u13 : (c == 13) = false := by simp; omega
  have u4 : (c == 4) = false := by simp; omega
  have u10 : (c == 10) = false := by simp; omega
  have HX := Lib.hid (show c = tyC c by unfold tyC; rw [if_neg (by omega)])
  have HC := Lib.hid (show c ≠ 21 ∧ c ≠ 8 ∧ c ≠ 127 ∧ c ≠ 0 by omega)
  have HNF := Lib.hid (show ¬ (tyC c = 10 ∨ c = 4) by unfold tyC; rw [if_neg (by omega)]; omega)
  rw [rest_nat hG] at hl2
  clear hc
  obtain ⟨la, lc, rfl, hlc, _⟩ := row_shape h.2.2.2.2.1
  obtain ⟨da, dc, rfl, hdc, _⟩ := row_shape h.2.2.2.1
  have c0 : w.cell? ⟨B, 0, none⟩ = some (.slice da D.length dc) := h.2.2.1.cell 0
  have c1 : w.cell? ⟨B, 1, none⟩ = some (.int .i64 G) := h.2.2.1.cell 1
  have c2 : w.cell? ⟨B, 2, none⟩ = some (.slice la L.length lc) := h.2.2.1.cell 2
  obtain ⟨Ln, hLn⟩ : ∃ Ln, Ln = L.length := ⟨_, rfl⟩
  have hrow := h.2.2.2.2.1
  unfold Row at hrow
  rw [← hLn] at c2 hrow h hl hlc hl2 ⊢
  rw [rest_nat hG] at hl
  obtain ⟨R, hR⟩ : ∃ R, R = D.length - G := ⟨_, rfl⟩
  rw [← hR] at hl
  have hsub : (D.length : Int) - (G : Int) = (R : Int) := by omega
  have hw1 : IntKind.i64.wrap (R : Int) = R := IntWalk.i64_in _ (by omega)
  have hw2 : IntKind.i64.wrap ((R : Int) + Ln) = (R : Int) + Ln := IntWalk.i64_in _ (by omega)
  have hge : decide ((128 : Int) ≤ (R : Int) + Ln) = false := by simp; omega
  have hge2 : ¬ (128 : Int) ≤ (R : Int) + Ln := by omega
  have H := Lib.hid h; clear h
  have HROW := Lib.hid hrow; clear hrow
  have HLN := Lib.hid hLn; clear hLn
  have HRR := Lib.hid hR; clear hR
  have HSUB := Lib.hid hsub
  have HW1 := Lib.hid hw1
  go_enter Tryd.func29, Tryd.ntmps29
  go_wp2_with fail
  go_quiet (fail)
  clear hsub hw1 hw2 hge hge2
  generalize hW0 : w.drewN _ = W0
  have F0 : Fr No w W0 := by rw [← hW0]; exact (Fr.refl No w).drewN _
  clear hW0
  have hb0 := (H.out.no F0).2.2.1
  have c2 : W0.cell? ⟨B, 2, none⟩ = some (.slice la Ln lc) := hb0.cell 2
  have HF0 := Lib.hid F0
  have hrow0 := row_fr HROW.out F0 (fun _ _ => id)
  have HROW0 := Lib.hid hrow0
  have hsz0 : base ≤ W0.heap.size := (H.out.no F0).1
  clear hrow0 F0 hb0
  go_wp2_with (at_builtin; refine wpList_append_one rfl _ _ 22 rfl base 5 i0 (.int .u8 0) 1 Tryd.underlying22 hi hz0 hz1 hz2 rfl (.slice la Ln lc) Ln (L.map (Value.int .u8)) rfl (HROW0.out.alloc _) _ _ (.int .u8 c) rfl ?cell rfl ?h63 ?hby ?hba ?_)
  case cell => exact (Blk.new _ [Value.int .u8 c] 5).cell 0
  case h63 => unfold maxLen; omega
  case hby => omega
  case hba => simp; omega
  intro lv1 w1 hown hf hn
  have hf := ((Fr.refl _ W0).alloc _).trans hf (fun _ _ h => h)
  have hput := book_put (x := c) (w0 := W0) H.out HF0.out (by unfold Row; rw [List.length_append, List.length_singleton, ← HLN.out, List.map_append]; exact hown) hf (fun k hk => by
    rcases hn k hk with h1 | h1
    · exact .inl h1
    · have h2 : W0.heap.size + 1 ≤ k := by simpa using h1
      exact .inr (by omega))
  obtain ⟨l1a, l1c, rfl, hl1c, _⟩ := row_shape hown
  have hb1 : Blk w1 B [.slice da D.length dc, .int .i64 G, .slice la Ln lc] 56 := (H.out.no HF0.out).2.2.1.fr hf (fun hh => H.out.lvB B hh.1 rfl)
  have c2 : w1.cell? ⟨B, 2, none⟩ = some (.slice la Ln lc) := hb1.cell 2
  have f2 := hb1.free 2
  have HPUT := Lib.hid hput
  clear hput hown hf hn hb1
  go_upto_region 12 with fail
  generalize hW1 : World.setCell _ _ _ = W1 at HPUT ⊢
  clear hW1 c2 f2
  have hb1 := HPUT.out.1.2.2.1
  have c0 : W1.cell? ⟨B, 0, none⟩ = some (.slice da D.length dc) := hb1.cell 0
  have c1 : W1.cell? ⟨B, 1, none⟩ = some (.int .i64 G) := hb1.cell 1
  have c2 : W1.cell? ⟨B, 2, none⟩ = some (.slice l1a (Ln + 1) l1c) := hb1.cell 2
  clear hb1
  have hsub := HSUB.out
  have hw1 := HW1.out
  have hw3 : IntKind.i64.wrap ((R : Int) + (Ln + 1)) = (R : Int) + (Ln + 1) := IntWalk.i64_in _ (by omega)
  have heq : ((R : Int) + (Ln + 1) == 128) = false := by simp; omega
  have FIN := Lib.hid (fun m => typed_mk (c := c) (w := w) (bk_more (D := D) (L := L) (G := G) (c := c) HC.out (by rw [rest_nat hG, ← HRR.out, ← HLN.out]; omega) HNF.out).1 (by rw [(bk_more (D := D) (L := L) (G := G) (c := c) HC.out (by rw [rest_nat hG, ← HRR.out, ← HLN.out]; omega) HNF.out).2, ← HX.out]) (HPUT.out.1.no ((Fr.refl No W1).drewN m)) (HPUT.out.2.1.drewN m))
  go_quiet (fail)
  go_wp2_with fail
  go_end0
  exact FIN.out _

set_option maxRecDepth 100000 in
set_option maxHeartbeats 6400000 in
theorem typed_last (base B : Nat) (dv lv : Value) (D : List Int) (G : Nat) (L : List Int) (c : Int) (w : World) (h : BookAt w base B dv lv D G L) (hG : G ≤ D.length) (hD : D.length ≤ 100000) (hl : (D.drop G).length + L.length < 128) (hl2 : (D.drop G).length + L.length + 1 = 128) (hc : c ≠ 21 ∧ c ≠ 8 ∧ c ≠ 127 ∧ c ≠ 0 ∧ c ≠ 4 ∧ c ≠ 10 ∧ c ≠ 13) :
    Calls Tryd.prog 29 #[.pointer (some ⟨B, 0, none⟩), .int .u8 c] w (TypedPost base B dv lv D G L c w) := by
  obtain ⟨i0, hi, hz0, hz1, hz2⟩ := info_parts infoU8
  have u21 : (c == 21) = false := by simp; omega
  have u8 : (c == 8) = false := by simp; omega
  have u127 : (c == 127) = false := by simp; omega
  have u0 : (c == 0) = false := by simp; omega
  have u13 : (c == 13) = false := by simp; omega
  have u4 : (c == 4) = false := by simp; omega
  have u10 : (c == 10) = false := by simp; omega
  have HX := Lib.hid (show c = tyC c by unfold tyC; rw [if_neg (by omega)])
  have HC := Lib.hid (show c ≠ 21 ∧ c ≠ 8 ∧ c ≠ 127 ∧ c ≠ 0 by omega)
  have HL2 := Lib.hid hl2
  rw [rest_nat hG] at hl2
  have hl3 : 128 ≤ D.length - G + L.length + 1 := by omega
  clear hc hl2
  obtain ⟨la, lc, rfl, hlc, _⟩ := row_shape h.2.2.2.2.1
  obtain ⟨da, dc, rfl, hdc, _⟩ := row_shape h.2.2.2.1
  have c0 : w.cell? ⟨B, 0, none⟩ = some (.slice da D.length dc) := h.2.2.1.cell 0
  have c1 : w.cell? ⟨B, 1, none⟩ = some (.int .i64 G) := h.2.2.1.cell 1
  have c2 : w.cell? ⟨B, 2, none⟩ = some (.slice la L.length lc) := h.2.2.1.cell 2
  obtain ⟨Ln, hLn⟩ : ∃ Ln, Ln = L.length := ⟨_, rfl⟩
  have hrow := h.2.2.2.2.1
  unfold Row at hrow
  rw [← hLn] at c2 hrow h hl hlc hl3 ⊢
  rw [rest_nat hG] at hl
  obtain ⟨R, hR⟩ : ∃ R, R = D.length - G := ⟨_, rfl⟩
  rw [← hR] at hl
  have hsub : (D.length : Int) - (G : Int) = (R : Int) := by omega
  have hw1 : IntKind.i64.wrap (R : Int) = R := IntWalk.i64_in _ (by omega)
  have hw2 : IntKind.i64.wrap ((R : Int) + Ln) = (R : Int) + Ln := IntWalk.i64_in _ (by omega)
  have hge : decide ((128 : Int) ≤ (R : Int) + Ln) = false := by simp; omega
  have hge2 : ¬ (128 : Int) ≤ (R : Int) + Ln := by omega
  have H := Lib.hid h; clear h
  have HROW := Lib.hid hrow; clear hrow
  have HLN := Lib.hid hLn; clear hLn
  have HRR := Lib.hid hR; clear hR
  have HSUB := Lib.hid hsub
  have HW1 := Lib.hid hw1
  go_enter Tryd.func29, Tryd.ntmps29
  go_wp2_with fail
  go_quiet (fail)
  clear hsub hw1 hw2 hge hge2
  generalize hW0 : w.drewN _ = W0
  have F0 : Fr No w W0 := by rw [← hW0]; exact (Fr.refl No w).drewN _
  clear hW0
  have hb0 := (H.out.no F0).2.2.1
  have c2 : W0.cell? ⟨B, 2, none⟩ = some (.slice la Ln lc) := hb0.cell 2
  have HF0 := Lib.hid F0
  have hrow0 := row_fr HROW.out F0 (fun _ _ => id)
  have HROW0 := Lib.hid hrow0
  have hsz0 : base ≤ W0.heap.size := (H.out.no F0).1
  clear hrow0 F0 hb0
  go_wp2_with (at_builtin; refine wpList_append_one rfl _ _ 22 rfl base 5 i0 (.int .u8 0) 1 Tryd.underlying22 hi hz0 hz1 hz2 rfl (.slice la Ln lc) Ln (L.map (Value.int .u8)) rfl (HROW0.out.alloc _) _ _ (.int .u8 c) rfl ?cell rfl ?h63 ?hby ?hba ?_)
  case cell => exact (Blk.new _ [Value.int .u8 c] 5).cell 0
  case h63 => unfold maxLen; omega
  case hby => omega
  case hba => simp; omega
  intro lv1 w1 hown hf hn
  have hf := ((Fr.refl _ W0).alloc _).trans hf (fun _ _ h => h)
  have hput := book_put (x := c) (w0 := W0) H.out HF0.out (by unfold Row; rw [List.length_append, List.length_singleton, ← HLN.out, List.map_append]; exact hown) hf (fun k hk => by
    rcases hn k hk with h1 | h1
    · exact .inl h1
    · have h2 : W0.heap.size + 1 ≤ k := by simpa using h1
      exact .inr (by omega))
  obtain ⟨l1a, l1c, rfl, hl1c, _⟩ := row_shape hown
  have hb1 : Blk w1 B [.slice da D.length dc, .int .i64 G, .slice la Ln lc] 56 := (H.out.no HF0.out).2.2.1.fr hf (fun hh => H.out.lvB B hh.1 rfl)
  have c2 : w1.cell? ⟨B, 2, none⟩ = some (.slice la Ln lc) := hb1.cell 2
  have f2 := hb1.free 2
  have HPUT := Lib.hid hput
  clear hput hown hf hn hb1
  go_upto_region 12 with fail
  generalize hW1 : World.setCell _ _ _ = W1 at HPUT ⊢
  clear hW1 c2 f2
  have hb1 := HPUT.out.1.2.2.1
  have c0 : W1.cell? ⟨B, 0, none⟩ = some (.slice da D.length dc) := hb1.cell 0
  have c1 : W1.cell? ⟨B, 1, none⟩ = some (.int .i64 G) := hb1.cell 1
  have c2 : W1.cell? ⟨B, 2, none⟩ = some (.slice l1a (Ln + 1) l1c) := hb1.cell 2
  clear hb1
  have hsub := HSUB.out
  have hw1 := HW1.out
  have hw3 : IntKind.i64.wrap ((R : Int) + (Ln + 1)) = (R : Int) + (Ln + 1) := IntWalk.i64_in _ (by omega)
  have heq : ((R : Int) + (Ln + 1) == 128) = true := by simp; omega
  go_quiet (fail)
  generalize hW3 : W1.drewN _ = W3
  have F3 : Fr No W1 W3 := by rw [← hW3]; exact (Fr.refl No W1).drewN _
  clear hW3
  have hb3 := HPUT.out.1.no F3
  have hd3 := hb3.2.2.2.1
  have hl3 := hb3.2.2.2.2.1
  unfold Row at hl3
  rw [List.length_append, List.length_singleton, ← HLN.out] at hl3
  have c0 : W3.cell? ⟨B, 0, none⟩ = some (.slice da D.length dc) := hb3.2.2.1.cell 0
  have c2 : W3.cell? ⟨B, 2, none⟩ = some (.slice l1a (Ln + 1) l1c) := hb3.2.2.1.cell 2
  have FIN := Lib.hid (fun w4 dv4 (hr : Row 5 .u8 w4 base dv4 (D ++ (L ++ [c]))) hf => typed_mk (c := c) (w := w) (bk_line (D := D) (L := L) (G := G) (c := c) HC.out (by rw [rest_nat hG, ← HRR.out, ← HLN.out]; omega) (.inr HL2.out)).1 (bk_line (D := D) (L := L) (G := G) (c := c) HC.out (by rw [rest_nat hG, ← HRR.out, ← HLN.out]; omega) (.inr HL2.out)).2 (by rw [← HX.out]; exact (book_line (w1 := w4) (dv4 := dv4) HPUT.out.1 F3 hr hf).1) (HPUT.out.2.1.trans (book_line (w1 := w4) (dv4 := dv4) HPUT.out.1 F3 hr hf).2 (fun k hk hh => by
    rcases hh with hh | hh | hh
    · exact .inl hh
    · exact .inr (.inl hh)
    · rcases HPUT.out.2.2 k hh with h1 | h1
      · exact .inr (.inr h1)
      · omega)))
  obtain ⟨gl, rfl, _, _, _⟩ := row_at hl3 0 (((L ++ [c]).map (Value.int .u8))[0]'(by simp)) (List.getElem?_eq_getElem (by simp))
  have HBK := Lib.hid hb3.2.2.1
  have HD3 := Lib.hid hd3
  have HL3 := Lib.hid hl3
  have HDB := Lib.hid hb3.dvB
  have hsz3 := hb3.1
  clear F3 hb3 hd3 hl3
  clear hsub hw1 hw3 heq
  go_wp2_with fail
  go_region_law (first
    | (refine step_append_many rfl (.tmp 93) (.tmp 97) 22 rfl base 5 i0 (.int .u8 0) 1 Tryd.underlying22 hi hz0 hz1 hz2 rfl (.slice da D.length dc) D.length (D.map (Value.int .u8)) rfl HD3.out.drew ⟨gl, 0, none⟩ (Ln + 1) l1c ((L ++ [c]).map (Value.int .u8)) rfl (by rw [List.length_map, List.length_append, List.length_singleton, ← HLN.out]) (fun j y hj => HL3.out.cells rfl j y hj) (ints_one' _) (by omega) (by unfold maxLen; omega) (by omega) hsz3 ?_
       intro dv4 w4 n1 n2 n3
       obtain ⟨d4a, d4c, rfl, _⟩ := row_shape n1
       have hb4 := HBK.out.fr (((Fr.refl _ W3).drew).trans n2 (fun _ _ h => h)) (fun hh => HDB.out B hh.1 rfl)
       have m0 : w4.cell? ⟨B, 0, none⟩ = some (.slice da D.length dc) := hb4.cell 0
       have m2 : w4.cell? ⟨B, 2, none⟩ = some (.slice (some ⟨gl, 0, none⟩) (Ln + 1) l1c) := hb4.cell 2
       have g0 := hb4.free 0
       have g2 := hb4.free 2
       have N1 := Lib.hid n1
       have N2 := Lib.hid (((Fr.refl _ W3).drew).trans n2 (fun _ _ h => h))
       clear n1 n2 n3 hb4))
  all_goals
    have FI := Lib.hid (FIN.out w4 _ (by unfold Row; rw [List.length_append, List.map_append, List.length_append, List.length_singleton, ← HLN.out]; exact N1.out) N2.out)
    go_wp2_with fail
    go_end0
    exact FI.out

set_option maxRecDepth 100000 in
set_option maxHeartbeats 6400000 in
theorem typed_cr (base B : Nat) (dv lv : Value) (D : List Int) (G : Nat) (L : List Int) (w : World) (h : BookAt w base B dv lv D G L) (hG : G ≤ D.length) (hD : D.length ≤ 100000) (hl : (D.drop G).length + L.length < 128) :
    Calls Tryd.prog 29 #[.pointer (some ⟨B, 0, none⟩), .int .u8 13] w (TypedPost base B dv lv D G L 13 w) := by
  obtain ⟨i0, hi, hz0, hz1, hz2⟩ := info_parts infoU8
  have HX := Lib.hid (show (10 : Int) = tyC 13 from rfl)
  have HC := Lib.hid (show (13 : Int) ≠ 21 ∧ (13 : Int) ≠ 8 ∧ (13 : Int) ≠ 127 ∧ (13 : Int) ≠ 0 by decide)
  obtain ⟨la, lc, rfl, hlc, _⟩ := row_shape h.2.2.2.2.1
  obtain ⟨da, dc, rfl, hdc, _⟩ := row_shape h.2.2.2.1
  have c0 : w.cell? ⟨B, 0, none⟩ = some (.slice da D.length dc) := h.2.2.1.cell 0
  have c1 : w.cell? ⟨B, 1, none⟩ = some (.int .i64 G) := h.2.2.1.cell 1
  have c2 : w.cell? ⟨B, 2, none⟩ = some (.slice la L.length lc) := h.2.2.1.cell 2
  obtain ⟨Ln, hLn⟩ : ∃ Ln, Ln = L.length := ⟨_, rfl⟩
  have hrow := h.2.2.2.2.1
  unfold Row at hrow
  rw [← hLn] at c2 hrow h hl hlc ⊢
  rw [rest_nat hG] at hl
  obtain ⟨R, hR⟩ : ∃ R, R = D.length - G := ⟨_, rfl⟩
  rw [← hR] at hl
  have hsub : (D.length : Int) - (G : Int) = (R : Int) := by omega
  have hw1 : IntKind.i64.wrap (R : Int) = R := IntWalk.i64_in _ (by omega)
  have hw2 : IntKind.i64.wrap ((R : Int) + Ln) = (R : Int) + Ln := IntWalk.i64_in _ (by omega)
  have hge : decide ((128 : Int) ≤ (R : Int) + Ln) = false := by simp; omega
  have hge2 : ¬ (128 : Int) ≤ (R : Int) + Ln := by omega
  have H := Lib.hid h; clear h
  have HROW := Lib.hid hrow; clear hrow
  have HLN := Lib.hid hLn; clear hLn
  have HRR := Lib.hid hR; clear hR
  have HSUB := Lib.hid hsub
  have HW1 := Lib.hid hw1
  go_enter Tryd.func29, Tryd.ntmps29
  go_wp2_with fail
  go_quiet (fail)
  clear hsub hw1 hw2 hge hge2
  generalize hW0 : w.drewN _ = W0
  have F0 : Fr No w W0 := by rw [← hW0]; exact (Fr.refl No w).drewN _
  clear hW0
  have hb0 := (H.out.no F0).2.2.1
  have c2 : W0.cell? ⟨B, 2, none⟩ = some (.slice la Ln lc) := hb0.cell 2
  have HF0 := Lib.hid F0
  have hrow0 := row_fr HROW.out F0 (fun _ _ => id)
  have HROW0 := Lib.hid hrow0
  have hsz0 : base ≤ W0.heap.size := (H.out.no F0).1
  clear hrow0 F0 hb0
  go_wp2_with (at_builtin; refine wpList_append_one rfl _ _ 22 rfl base 5 i0 (.int .u8 0) 1 Tryd.underlying22 hi hz0 hz1 hz2 rfl (.slice la Ln lc) Ln (L.map (Value.int .u8)) rfl (HROW0.out.alloc _) _ _ (.int .u8 10) rfl ?cell rfl ?h63 ?hby ?hba ?_)
  case cell => exact (Blk.new _ [Value.int .u8 10] 5).cell 0
  case h63 => unfold maxLen; omega
  case hby => omega
  case hba => simp; omega
  intro lv1 w1 hown hf hn
  have hf := ((Fr.refl _ W0).alloc _).trans hf (fun _ _ h => h)
  have hput := book_put (x := 10) (w0 := W0) H.out HF0.out (by unfold Row; rw [List.length_append, List.length_singleton, ← HLN.out, List.map_append]; exact hown) hf (fun k hk => by
    rcases hn k hk with h1 | h1
    · exact .inl h1
    · have h2 : W0.heap.size + 1 ≤ k := by simpa using h1
      exact .inr (by omega))
  obtain ⟨l1a, l1c, rfl, hl1c, _⟩ := row_shape hown
  have hb1 : Blk w1 B [.slice da D.length dc, .int .i64 G, .slice la Ln lc] 56 := (H.out.no HF0.out).2.2.1.fr hf (fun hh => H.out.lvB B hh.1 rfl)
  have c2 : w1.cell? ⟨B, 2, none⟩ = some (.slice la Ln lc) := hb1.cell 2
  have f2 := hb1.free 2
  have HPUT := Lib.hid hput
  clear hput hown hf hn hb1
  go_upto_region 12 with fail
  generalize hW1 : World.setCell _ _ _ = W1 at HPUT ⊢
  clear hW1 c2 f2
  have hb1 := HPUT.out.1.2.2.1
  have c0 : W1.cell? ⟨B, 0, none⟩ = some (.slice da D.length dc) := hb1.cell 0
  have c1 : W1.cell? ⟨B, 1, none⟩ = some (.int .i64 G) := hb1.cell 1
  have c2 : W1.cell? ⟨B, 2, none⟩ = some (.slice l1a (Ln + 1) l1c) := hb1.cell 2
  clear hb1

  go_quiet (fail)
  generalize hW3 : W1.drewN _ = W3
  have F3 : Fr No W1 W3 := by rw [← hW3]; exact (Fr.refl No W1).drewN _
  clear hW3
  have hb3 := HPUT.out.1.no F3
  have hd3 := hb3.2.2.2.1
  have hl3 := hb3.2.2.2.2.1
  unfold Row at hl3
  rw [List.length_append, List.length_singleton, ← HLN.out] at hl3
  have c0 : W3.cell? ⟨B, 0, none⟩ = some (.slice da D.length dc) := hb3.2.2.1.cell 0
  have c2 : W3.cell? ⟨B, 2, none⟩ = some (.slice l1a (Ln + 1) l1c) := hb3.2.2.1.cell 2
  have FIN := Lib.hid (fun w4 dv4 (hr : Row 5 .u8 w4 base dv4 (D ++ (L ++ [10]))) hf => typed_mk (c := 13) (w := w) (bk_line (D := D) (L := L) (G := G) (c := 13) HC.out (by rw [rest_nat hG, ← HRR.out, ← HLN.out]; omega) (.inl (by decide))).1 (bk_line (D := D) (L := L) (G := G) (c := 13) HC.out (by rw [rest_nat hG, ← HRR.out, ← HLN.out]; omega) (.inl (by decide))).2 (by rw [← HX.out]; exact (book_line (w1 := w4) (dv4 := dv4) HPUT.out.1 F3 hr hf).1) (HPUT.out.2.1.trans (book_line (w1 := w4) (dv4 := dv4) HPUT.out.1 F3 hr hf).2 (fun k hk hh => by
    rcases hh with hh | hh | hh
    · exact .inl hh
    · exact .inr (.inl hh)
    · rcases HPUT.out.2.2 k hh with h1 | h1
      · exact .inr (.inr h1)
      · omega)))
  obtain ⟨gl, rfl, _, _, _⟩ := row_at hl3 0 (((L ++ [10]).map (Value.int .u8))[0]'(by simp)) (List.getElem?_eq_getElem (by simp))
  have HBK := Lib.hid hb3.2.2.1
  have HD3 := Lib.hid hd3
  have HL3 := Lib.hid hl3
  have HDB := Lib.hid hb3.dvB
  have hsz3 := hb3.1
  clear F3 hb3 hd3 hl3

  go_wp2_with fail
  go_region_law (first
    | (refine step_append_many rfl (.tmp 93) (.tmp 97) 22 rfl base 5 i0 (.int .u8 0) 1 Tryd.underlying22 hi hz0 hz1 hz2 rfl (.slice da D.length dc) D.length (D.map (Value.int .u8)) rfl HD3.out.drew ⟨gl, 0, none⟩ (Ln + 1) l1c ((L ++ [10]).map (Value.int .u8)) rfl (by rw [List.length_map, List.length_append, List.length_singleton, ← HLN.out]) (fun j y hj => HL3.out.cells rfl j y hj) (ints_one' _) (by omega) (by unfold maxLen; omega) (by omega) hsz3 ?_
       intro dv4 w4 n1 n2 n3
       obtain ⟨d4a, d4c, rfl, _⟩ := row_shape n1
       have hb4 := HBK.out.fr (((Fr.refl _ W3).drew).trans n2 (fun _ _ h => h)) (fun hh => HDB.out B hh.1 rfl)
       have m0 : w4.cell? ⟨B, 0, none⟩ = some (.slice da D.length dc) := hb4.cell 0
       have m2 : w4.cell? ⟨B, 2, none⟩ = some (.slice (some ⟨gl, 0, none⟩) (Ln + 1) l1c) := hb4.cell 2
       have g0 := hb4.free 0
       have g2 := hb4.free 2
       have N1 := Lib.hid n1
       have N2 := Lib.hid (((Fr.refl _ W3).drew).trans n2 (fun _ _ h => h))
       clear n1 n2 n3 hb4))
  all_goals
    have FI := Lib.hid (FIN.out w4 _ (by unfold Row; rw [List.length_append, List.map_append, List.length_append, List.length_singleton, ← HLN.out]; exact N1.out) N2.out)
    go_wp2_with fail
    go_end0
    exact FI.out

set_option maxRecDepth 100000 in
set_option maxHeartbeats 6400000 in
theorem typed_lf (base B : Nat) (dv lv : Value) (D : List Int) (G : Nat) (L : List Int) (w : World) (h : BookAt w base B dv lv D G L) (hG : G ≤ D.length) (hD : D.length ≤ 100000) (hl : (D.drop G).length + L.length < 128) :
    Calls Tryd.prog 29 #[.pointer (some ⟨B, 0, none⟩), .int .u8 10] w (TypedPost base B dv lv D G L 10 w) := by
  obtain ⟨i0, hi, hz0, hz1, hz2⟩ := info_parts infoU8
  have HX := Lib.hid (show (10 : Int) = tyC 10 from rfl)
  have HC := Lib.hid (show (10 : Int) ≠ 21 ∧ (10 : Int) ≠ 8 ∧ (10 : Int) ≠ 127 ∧ (10 : Int) ≠ 0 by decide)
  obtain ⟨la, lc, rfl, hlc, _⟩ := row_shape h.2.2.2.2.1
  obtain ⟨da, dc, rfl, hdc, _⟩ := row_shape h.2.2.2.1
  have c0 : w.cell? ⟨B, 0, none⟩ = some (.slice da D.length dc) := h.2.2.1.cell 0
  have c1 : w.cell? ⟨B, 1, none⟩ = some (.int .i64 G) := h.2.2.1.cell 1
  have c2 : w.cell? ⟨B, 2, none⟩ = some (.slice la L.length lc) := h.2.2.1.cell 2
  obtain ⟨Ln, hLn⟩ : ∃ Ln, Ln = L.length := ⟨_, rfl⟩
  have hrow := h.2.2.2.2.1
  unfold Row at hrow
  rw [← hLn] at c2 hrow h hl hlc ⊢
  rw [rest_nat hG] at hl
  obtain ⟨R, hR⟩ : ∃ R, R = D.length - G := ⟨_, rfl⟩
  rw [← hR] at hl
  have hsub : (D.length : Int) - (G : Int) = (R : Int) := by omega
  have hw1 : IntKind.i64.wrap (R : Int) = R := IntWalk.i64_in _ (by omega)
  have hw2 : IntKind.i64.wrap ((R : Int) + Ln) = (R : Int) + Ln := IntWalk.i64_in _ (by omega)
  have hge : decide ((128 : Int) ≤ (R : Int) + Ln) = false := by simp; omega
  have hge2 : ¬ (128 : Int) ≤ (R : Int) + Ln := by omega
  have H := Lib.hid h; clear h
  have HROW := Lib.hid hrow; clear hrow
  have HLN := Lib.hid hLn; clear hLn
  have HRR := Lib.hid hR; clear hR
  have HSUB := Lib.hid hsub
  have HW1 := Lib.hid hw1
  go_enter Tryd.func29, Tryd.ntmps29
  go_wp2_with fail
  go_quiet (fail)
  clear hsub hw1 hw2 hge hge2
  generalize hW0 : w.drewN _ = W0
  have F0 : Fr No w W0 := by rw [← hW0]; exact (Fr.refl No w).drewN _
  clear hW0
  have hb0 := (H.out.no F0).2.2.1
  have c2 : W0.cell? ⟨B, 2, none⟩ = some (.slice la Ln lc) := hb0.cell 2
  have HF0 := Lib.hid F0
  have hrow0 := row_fr HROW.out F0 (fun _ _ => id)
  have HROW0 := Lib.hid hrow0
  have hsz0 : base ≤ W0.heap.size := (H.out.no F0).1
  clear hrow0 F0 hb0
  go_wp2_with (at_builtin; refine wpList_append_one rfl _ _ 22 rfl base 5 i0 (.int .u8 0) 1 Tryd.underlying22 hi hz0 hz1 hz2 rfl (.slice la Ln lc) Ln (L.map (Value.int .u8)) rfl (HROW0.out.alloc _) _ _ (.int .u8 10) rfl ?cell rfl ?h63 ?hby ?hba ?_)
  case cell => exact (Blk.new _ [Value.int .u8 10] 5).cell 0
  case h63 => unfold maxLen; omega
  case hby => omega
  case hba => simp; omega
  intro lv1 w1 hown hf hn
  have hf := ((Fr.refl _ W0).alloc _).trans hf (fun _ _ h => h)
  have hput := book_put (x := 10) (w0 := W0) H.out HF0.out (by unfold Row; rw [List.length_append, List.length_singleton, ← HLN.out, List.map_append]; exact hown) hf (fun k hk => by
    rcases hn k hk with h1 | h1
    · exact .inl h1
    · have h2 : W0.heap.size + 1 ≤ k := by simpa using h1
      exact .inr (by omega))
  obtain ⟨l1a, l1c, rfl, hl1c, _⟩ := row_shape hown
  have hb1 : Blk w1 B [.slice da D.length dc, .int .i64 G, .slice la Ln lc] 56 := (H.out.no HF0.out).2.2.1.fr hf (fun hh => H.out.lvB B hh.1 rfl)
  have c2 : w1.cell? ⟨B, 2, none⟩ = some (.slice la Ln lc) := hb1.cell 2
  have f2 := hb1.free 2
  have HPUT := Lib.hid hput
  clear hput hown hf hn hb1
  go_upto_region 12 with fail
  generalize hW1 : World.setCell _ _ _ = W1 at HPUT ⊢
  clear hW1 c2 f2
  have hb1 := HPUT.out.1.2.2.1
  have c0 : W1.cell? ⟨B, 0, none⟩ = some (.slice da D.length dc) := hb1.cell 0
  have c1 : W1.cell? ⟨B, 1, none⟩ = some (.int .i64 G) := hb1.cell 1
  have c2 : W1.cell? ⟨B, 2, none⟩ = some (.slice l1a (Ln + 1) l1c) := hb1.cell 2
  clear hb1

  go_quiet (fail)
  generalize hW3 : W1.drewN _ = W3
  have F3 : Fr No W1 W3 := by rw [← hW3]; exact (Fr.refl No W1).drewN _
  clear hW3
  have hb3 := HPUT.out.1.no F3
  have hd3 := hb3.2.2.2.1
  have hl3 := hb3.2.2.2.2.1
  unfold Row at hl3
  rw [List.length_append, List.length_singleton, ← HLN.out] at hl3
  have c0 : W3.cell? ⟨B, 0, none⟩ = some (.slice da D.length dc) := hb3.2.2.1.cell 0
  have c2 : W3.cell? ⟨B, 2, none⟩ = some (.slice l1a (Ln + 1) l1c) := hb3.2.2.1.cell 2
  have FIN := Lib.hid (fun w4 dv4 (hr : Row 5 .u8 w4 base dv4 (D ++ (L ++ [10]))) hf => typed_mk (c := 10) (w := w) (bk_line (D := D) (L := L) (G := G) (c := 10) HC.out (by rw [rest_nat hG, ← HRR.out, ← HLN.out]; omega) (.inl (by decide))).1 (bk_line (D := D) (L := L) (G := G) (c := 10) HC.out (by rw [rest_nat hG, ← HRR.out, ← HLN.out]; omega) (.inl (by decide))).2 (by rw [← HX.out]; exact (book_line (w1 := w4) (dv4 := dv4) HPUT.out.1 F3 hr hf).1) (HPUT.out.2.1.trans (book_line (w1 := w4) (dv4 := dv4) HPUT.out.1 F3 hr hf).2 (fun k hk hh => by
    rcases hh with hh | hh | hh
    · exact .inl hh
    · exact .inr (.inl hh)
    · rcases HPUT.out.2.2 k hh with h1 | h1
      · exact .inr (.inr h1)
      · omega)))
  obtain ⟨gl, rfl, _, _, _⟩ := row_at hl3 0 (((L ++ [10]).map (Value.int .u8))[0]'(by simp)) (List.getElem?_eq_getElem (by simp))
  have HBK := Lib.hid hb3.2.2.1
  have HD3 := Lib.hid hd3
  have HL3 := Lib.hid hl3
  have HDB := Lib.hid hb3.dvB
  have hsz3 := hb3.1
  clear F3 hb3 hd3 hl3

  go_wp2_with fail
  go_region_law (first
    | (refine step_append_many rfl (.tmp 93) (.tmp 97) 22 rfl base 5 i0 (.int .u8 0) 1 Tryd.underlying22 hi hz0 hz1 hz2 rfl (.slice da D.length dc) D.length (D.map (Value.int .u8)) rfl HD3.out.drew ⟨gl, 0, none⟩ (Ln + 1) l1c ((L ++ [10]).map (Value.int .u8)) rfl (by rw [List.length_map, List.length_append, List.length_singleton, ← HLN.out]) (fun j y hj => HL3.out.cells rfl j y hj) (ints_one' _) (by omega) (by unfold maxLen; omega) (by omega) hsz3 ?_
       intro dv4 w4 n1 n2 n3
       obtain ⟨d4a, d4c, rfl, _⟩ := row_shape n1
       have hb4 := HBK.out.fr (((Fr.refl _ W3).drew).trans n2 (fun _ _ h => h)) (fun hh => HDB.out B hh.1 rfl)
       have m0 : w4.cell? ⟨B, 0, none⟩ = some (.slice da D.length dc) := hb4.cell 0
       have m2 : w4.cell? ⟨B, 2, none⟩ = some (.slice (some ⟨gl, 0, none⟩) (Ln + 1) l1c) := hb4.cell 2
       have g0 := hb4.free 0
       have g2 := hb4.free 2
       have N1 := Lib.hid n1
       have N2 := Lib.hid (((Fr.refl _ W3).drew).trans n2 (fun _ _ h => h))
       clear n1 n2 n3 hb4))
  all_goals
    have FI := Lib.hid (FIN.out w4 _ (by unfold Row; rw [List.length_append, List.map_append, List.length_append, List.length_singleton, ← HLN.out]; exact N1.out) N2.out)
    go_wp2_with fail
    go_end0
    exact FI.out

set_option maxRecDepth 100000 in
set_option maxHeartbeats 6400000 in
theorem typed_end (base B : Nat) (dv lv : Value) (D : List Int) (G : Nat) (L : List Int) (w : World) (h : BookAt w base B dv lv D G L) (hG : G ≤ D.length) (hD : D.length ≤ 100000) (hl : (D.drop G).length + L.length < 128) :
    Calls Tryd.prog 29 #[.pointer (some ⟨B, 0, none⟩), .int .u8 4] w (TypedPost base B dv lv D G L 4 w) := by
  obtain ⟨i0, hi, hz0, hz1, hz2⟩ := info_parts infoU8
  have HX := Lib.hid (show (4 : Int) = tyC 4 from rfl)
  have HC := Lib.hid (show (4 : Int) ≠ 21 ∧ (4 : Int) ≠ 8 ∧ (4 : Int) ≠ 127 ∧ (4 : Int) ≠ 0 by decide)
  obtain ⟨la, lc, rfl, hlc, _⟩ := row_shape h.2.2.2.2.1
  obtain ⟨da, dc, rfl, hdc, _⟩ := row_shape h.2.2.2.1
  have c0 : w.cell? ⟨B, 0, none⟩ = some (.slice da D.length dc) := h.2.2.1.cell 0
  have c1 : w.cell? ⟨B, 1, none⟩ = some (.int .i64 G) := h.2.2.1.cell 1
  have c2 : w.cell? ⟨B, 2, none⟩ = some (.slice la L.length lc) := h.2.2.1.cell 2
  obtain ⟨Ln, hLn⟩ : ∃ Ln, Ln = L.length := ⟨_, rfl⟩
  have hrow := h.2.2.2.2.1
  unfold Row at hrow
  rw [← hLn] at c2 hrow h hl hlc ⊢
  rw [rest_nat hG] at hl
  obtain ⟨R, hR⟩ : ∃ R, R = D.length - G := ⟨_, rfl⟩
  rw [← hR] at hl
  have hsub : (D.length : Int) - (G : Int) = (R : Int) := by omega
  have hw1 : IntKind.i64.wrap (R : Int) = R := IntWalk.i64_in _ (by omega)
  have hw2 : IntKind.i64.wrap ((R : Int) + Ln) = (R : Int) + Ln := IntWalk.i64_in _ (by omega)
  have hge : decide ((128 : Int) ≤ (R : Int) + Ln) = false := by simp; omega
  have hge2 : ¬ (128 : Int) ≤ (R : Int) + Ln := by omega
  have H := Lib.hid h; clear h
  have HROW := Lib.hid hrow; clear hrow
  have HLN := Lib.hid hLn; clear hLn
  have HRR := Lib.hid hR; clear hR
  have HSUB := Lib.hid hsub
  have HW1 := Lib.hid hw1
  go_enter Tryd.func29, Tryd.ntmps29
  go_wp2_with fail
  go_quiet (fail)
  clear hsub hw1 hw2 hge hge2
  generalize hW0 : w.drewN _ = W0
  have F0 : Fr No w W0 := by rw [← hW0]; exact (Fr.refl No w).drewN _
  clear hW0
  have hb0 := (H.out.no F0).2.2.1
  have c2 : W0.cell? ⟨B, 2, none⟩ = some (.slice la Ln lc) := hb0.cell 2
  have HF0 := Lib.hid F0
  have hrow0 := row_fr HROW.out F0 (fun _ _ => id)
  have HROW0 := Lib.hid hrow0
  have hsz0 : base ≤ W0.heap.size := (H.out.no F0).1
  clear hrow0 F0 hb0
  go_wp2_with (at_builtin; refine wpList_append_one rfl _ _ 22 rfl base 5 i0 (.int .u8 0) 1 Tryd.underlying22 hi hz0 hz1 hz2 rfl (.slice la Ln lc) Ln (L.map (Value.int .u8)) rfl (HROW0.out.alloc _) _ _ (.int .u8 4) rfl ?cell rfl ?h63 ?hby ?hba ?_)
  case cell => exact (Blk.new _ [Value.int .u8 4] 5).cell 0
  case h63 => unfold maxLen; omega
  case hby => omega
  case hba => simp; omega
  intro lv1 w1 hown hf hn
  have hf := ((Fr.refl _ W0).alloc _).trans hf (fun _ _ h => h)
  have hput := book_put (x := 4) (w0 := W0) H.out HF0.out (by unfold Row; rw [List.length_append, List.length_singleton, ← HLN.out, List.map_append]; exact hown) hf (fun k hk => by
    rcases hn k hk with h1 | h1
    · exact .inl h1
    · have h2 : W0.heap.size + 1 ≤ k := by simpa using h1
      exact .inr (by omega))
  obtain ⟨l1a, l1c, rfl, hl1c, _⟩ := row_shape hown
  have hb1 : Blk w1 B [.slice da D.length dc, .int .i64 G, .slice la Ln lc] 56 := (H.out.no HF0.out).2.2.1.fr hf (fun hh => H.out.lvB B hh.1 rfl)
  have c2 : w1.cell? ⟨B, 2, none⟩ = some (.slice la Ln lc) := hb1.cell 2
  have f2 := hb1.free 2
  have HPUT := Lib.hid hput
  clear hput hown hf hn hb1
  go_upto_region 12 with fail
  generalize hW1 : World.setCell _ _ _ = W1 at HPUT ⊢
  clear hW1 c2 f2
  have hb1 := HPUT.out.1.2.2.1
  have c0 : W1.cell? ⟨B, 0, none⟩ = some (.slice da D.length dc) := hb1.cell 0
  have c1 : W1.cell? ⟨B, 1, none⟩ = some (.int .i64 G) := hb1.cell 1
  have c2 : W1.cell? ⟨B, 2, none⟩ = some (.slice l1a (Ln + 1) l1c) := hb1.cell 2
  clear hb1

  go_quiet (fail)
  generalize hW3 : W1.drewN _ = W3
  have F3 : Fr No W1 W3 := by rw [← hW3]; exact (Fr.refl No W1).drewN _
  clear hW3
  have hb3 := HPUT.out.1.no F3
  have hd3 := hb3.2.2.2.1
  have hl3 := hb3.2.2.2.2.1
  unfold Row at hl3
  rw [List.length_append, List.length_singleton, ← HLN.out] at hl3
  have c0 : W3.cell? ⟨B, 0, none⟩ = some (.slice da D.length dc) := hb3.2.2.1.cell 0
  have c2 : W3.cell? ⟨B, 2, none⟩ = some (.slice l1a (Ln + 1) l1c) := hb3.2.2.1.cell 2
  have FIN := Lib.hid (fun w4 dv4 (hr : Row 5 .u8 w4 base dv4 (D ++ (L ++ [4]))) hf => typed_mk (c := 4) (w := w) (bk_line (D := D) (L := L) (G := G) (c := 4) HC.out (by rw [rest_nat hG, ← HRR.out, ← HLN.out]; omega) (.inl (by decide))).1 (bk_line (D := D) (L := L) (G := G) (c := 4) HC.out (by rw [rest_nat hG, ← HRR.out, ← HLN.out]; omega) (.inl (by decide))).2 (by rw [← HX.out]; exact (book_line (w1 := w4) (dv4 := dv4) HPUT.out.1 F3 hr hf).1) (HPUT.out.2.1.trans (book_line (w1 := w4) (dv4 := dv4) HPUT.out.1 F3 hr hf).2 (fun k hk hh => by
    rcases hh with hh | hh | hh
    · exact .inl hh
    · exact .inr (.inl hh)
    · rcases HPUT.out.2.2 k hh with h1 | h1
      · exact .inr (.inr h1)
      · omega)))
  obtain ⟨gl, rfl, _, _, _⟩ := row_at hl3 0 (((L ++ [4]).map (Value.int .u8))[0]'(by simp)) (List.getElem?_eq_getElem (by simp))
  have HBK := Lib.hid hb3.2.2.1
  have HD3 := Lib.hid hd3
  have HL3 := Lib.hid hl3
  have HDB := Lib.hid hb3.dvB
  have hsz3 := hb3.1
  clear F3 hb3 hd3 hl3

  go_wp2_with fail
  go_region_law (first
    | (refine step_append_many rfl (.tmp 93) (.tmp 97) 22 rfl base 5 i0 (.int .u8 0) 1 Tryd.underlying22 hi hz0 hz1 hz2 rfl (.slice da D.length dc) D.length (D.map (Value.int .u8)) rfl HD3.out.drew ⟨gl, 0, none⟩ (Ln + 1) l1c ((L ++ [4]).map (Value.int .u8)) rfl (by rw [List.length_map, List.length_append, List.length_singleton, ← HLN.out]) (fun j y hj => HL3.out.cells rfl j y hj) (ints_one' _) (by omega) (by unfold maxLen; omega) (by omega) hsz3 ?_
       intro dv4 w4 n1 n2 n3
       obtain ⟨d4a, d4c, rfl, _⟩ := row_shape n1
       have hb4 := HBK.out.fr (((Fr.refl _ W3).drew).trans n2 (fun _ _ h => h)) (fun hh => HDB.out B hh.1 rfl)
       have m0 : w4.cell? ⟨B, 0, none⟩ = some (.slice da D.length dc) := hb4.cell 0
       have m2 : w4.cell? ⟨B, 2, none⟩ = some (.slice (some ⟨gl, 0, none⟩) (Ln + 1) l1c) := hb4.cell 2
       have g0 := hb4.free 0
       have g2 := hb4.free 2
       have N1 := Lib.hid n1
       have N2 := Lib.hid (((Fr.refl _ W3).drew).trans n2 (fun _ _ h => h))
       clear n1 n2 n3 hb4))
  all_goals
    have FI := Lib.hid (FIN.out w4 _ (by unfold Row; rw [List.length_append, List.map_append, List.length_append, List.length_singleton, ← HLN.out]; exact N1.out) N2.out)
    go_wp2_with fail
    go_end0
    exact FI.out

theorem typed_calls (base B : Nat) (dv lv : Value) (D : List Int) (G : Nat) (L : List Int) (c : Int) (w : World) (h : BookAt w base B dv lv D G L) (hG : G ≤ D.length) (hD : D.length ≤ 100000) (hl : (D.drop G).length + L.length ≤ 128) :
    Calls Tryd.prog 29 #[.pointer (some ⟨B, 0, none⟩), .int .u8 c] w (TypedPost base B dv lv D G L c w) := by
  by_cases hs : c = 0 ∨ c = 21 ∨ c = 8 ∨ c = 127
  · exact typed_small base B dv lv D G L c w h (by omega) hs
  · by_cases hf : (D.drop G).length + L.length = 128
    · exact typed_full base B dv lv D G L c w h hG hD hf (by omega)
    · by_cases h13 : c = 13
      · subst h13; exact typed_cr base B dv lv D G L w h hG hD (by omega)
      · by_cases h10 : c = 10
        · subst h10; exact typed_lf base B dv lv D G L w h hG hD (by omega)
        · by_cases h4 : c = 4
          · subst h4; exact typed_end base B dv lv D G L w h hG hD (by omega)
          · by_cases hm : (D.drop G).length + L.length + 1 < 128
            · exact typed_go base B dv lv D G L c w h hG hD (by omega) hm (by omega)
            · exact typed_last base B dv lv D G L c w h hG hD (by omega) (by omega) (by omega)

end Go.Proofs.YtollgpnaadgncaaDoor
