/- ConsoleEcho: the walk. No condition. -/
import Derived.Test.YtollgpnaadgncaaDoorEchoLaw
import Derived.Test.YtollgpnaadgncaaDoorConI
import Derived.Test.YtollgpnaadgncaaDoorConJ
import Derived.Test.YtollgpnaadgncaaDoorApp
import Derived.Test.YtollgpnaadgncaaDoorRefE
import Derived.Deep.RegionHeld3
namespace Go.Proofs.YtollgpnaadgncaaDoor
open Go.RowKit

theorem row_ne_con {e : TypeId} {n P r : Nat} {cs : List Value} {xs : List Int} {w : World} {base : Nat} {v : Value} (h : w.ownsRow base e 1 v n cs) (hb : ConAt w P xs r) (hne : e ≠ 70) : ∀ k, v.ownBlock = some k → k ≠ P := by
  intro k hk
  obtain ⟨_, _, buf, _, _, hb⟩ := hb
  rcases h.2 with ⟨rfl, _⟩ | ⟨g, cap, cur, rfl, _, hg, _⟩
  · simp [Value.ownBlock] at hk
  · cases hk; rintro rfl; unfold Blk at hb; rw [hg] at hb; cases hb; exact hne rfl

/-- where a screen stands in the midst of an echo -/
def ScrAt (w wx : World) (P : Nat) (L E : List Int) (ev : Value) (R : List Int × Nat) (M j : Nat) (s : List Int) (a : Nat) (sv : Value) : Prop :=
  ConAt wx P L 0 ∧ Own wx w.heap.size ev E ∧ Row 5 .u8 wx w.heap.size sv s ∧ (∀ q, sv.ownBlock = some q → ev.ownBlock ≠ some q) ∧ scr s a (E.drop j) = some R ∧ a ≤ s.length ∧ s.length ≤ M + j ∧ Below w.heap.size w wx

theorem ScrAt.back {w wx : World} {P : Nat} {L E : List Int} {ev : Value} {R : List Int × Nat} {M j : Nat} {s : List Int} {a : Nat} {sv : Value} (h : ScrAt w wx P L E ev R M j s a sv) (hj : j < E.length) (h8 : E[j] = 8) : 0 < a ∧ ScrAt w wx P L E ev R M (j + 1) s (a - 1) sv := by
  obtain ⟨h1, h2, h3, h4, h5, h6, h7, h9⟩ := h
  rw [List.drop_eq_getElem_cons hj, scr, if_pos h8] at h5
  by_cases h0 : a = 0
  · rw [if_pos h0] at h5; cases h5
  · rw [if_neg h0] at h5
    exact ⟨by omega, h1, h2, h3, h4, h5, by omega, by omega, h9⟩

theorem ScrAt.write {w wx wy : World} {P : Nat} {L E : List Int} {ev : Value} {R : List Int × Nat} {M j : Nat} {s : List Int} {a : Nat} {sv : Value} (h : ScrAt w wx P L E ev R M j s a sv) (hj : j < E.length) (h8 : E[j] ≠ 8) (ha : a ≠ s.length)
    (hrow : Row 5 .u8 wy w.heap.size sv (s.set a E[j])) (hf : Fr (fun k => sv.ownBlock = some k) wx wy) : ScrAt w wy P L E ev R M (j + 1) (s.set a E[j]) (a + 1) sv := by
  obtain ⟨h1, h2, h3, h4, h5, h6, h7, h9⟩ := h
  rw [List.drop_eq_getElem_cons hj, scr, if_neg h8, if_neg ha] at h5
  refine ⟨h1.fr hf (fun hh => row_ne_con h3 h1 (by decide) P hh rfl), h2.fr hf (fun k hk hh => h4 k hh hk), hrow, h4, h5, by simp; omega, by simp; omega, Fr.below_of h9 hf h9.size (fun k hk => (h3.lt k hk).1)⟩

theorem ScrAt.grow {w wx wy : World} {P : Nat} {L E : List Int} {ev : Value} {R : List Int × Nat} {M j : Nat} {s : List Int} {a : Nat} {sv sv' : Value} (h : ScrAt w wx P L E ev R M j s a sv) (hj : j < E.length) (h8 : E[j] ≠ 8) (ha : a = s.length)
    (hrow : Row 5 .u8 wy w.heap.size sv' (s ++ [E[j]])) (hf : Fr (fun k => sv.ownBlock = some k) wx wy) (hn : ∀ k, sv'.ownBlock = some k → sv.ownBlock = some k ∨ wx.heap.size ≤ k) : ScrAt w wy P L E ev R M (j + 1) (s ++ [E[j]]) (a + 1) sv' := by
  obtain ⟨h1, h2, h3, h4, h5, h6, h7, h9⟩ := h
  rw [List.drop_eq_getElem_cons hj, scr, if_neg h8, if_pos ha] at h5
  refine ⟨h1.fr hf (fun hh => row_ne_con h3 h1 (by decide) P hh rfl), h2.fr hf (fun k hk hh => h4 k hh hk), hrow, fun q hq hq2 => ?_, h5, by simp; omega, by simp; omega, Fr.below_of h9 hf h9.size (fun k hk => (h3.lt k hk).1)⟩
  rcases hn q hq with hh | hh
  · exact h4 q hh hq2
  · have := (h2.lt q hq2).2; omega

theorem cstate_line (a b : Option Addr) (n c m d : Nat) (w : World) : (Instr.field 24 (.agg #[.slice a n c, .slice b m d]) 1).run Tryd.prog w = .ok (.slice b m d) w := by kernel_rfl
theorem cstate_ready (a b : Option Addr) (n c m d : Nat) (w : World) : (Instr.field 24 (.agg #[.slice a n c, .slice b m d]) 0).run Tryd.prog w = .ok (.slice a n c) w := by kernel_rfl

/-- where the script's loop stands -/
def EchoAt (w wx : World) (P k : Nat) (l : List Int) (m : Nat) (sv : Value) : Prop :=
  ConAt wx P l 0 ∧ Row 5 .u8 wx w.heap.size sv (scrOf l m) ∧ l.length + m ≤ k ∧ w.heap.size ≤ P ∧ Below w.heap.size w wx

set_option maxRecDepth 100000 in
set_option maxHeartbeats 3200000 in
theorem echo_walk (xs : List Int) (v : Value) (w : World) (h : BSl w v xs) (g : InB xs) (hk : KeysAt w) :
    Calls Tryd.prog 4 #[v] w fun e w' => e = .returned (.bool true) ∧ Below w.heap.size w w' := by
  obtain ⟨i0, hi, hz0, hz1, hz2⟩ := info_parts infoU8
  have hlow := h.lowb
  obtain ⟨a1, c1, rfl⟩ := h.shape
  have hxl := h.len
  have HX := Lib.hid h; clear h
  have HG := Lib.hid g; clear g
  have HK := Lib.hid hk; clear hk
  have HLOW := Lib.hid hlow; clear hlow
  go_enter Tryd.func4, Tryd.ntmps4
  go_wp2_with fail
  refine (new_calls w).mono ?_
  rintro e w1 ⟨rfl, hc1, hb1⟩
  have HE := Lib.hid (show EchoAt w w1 w.heap.size 0 [] 0 (.slice none 0 0) from ⟨hc1, World.ownsRow_nil _ _ _ _, by simp, Nat.le_refl _, hb1⟩)
  clear hc1 hb1
  go_wp2_with fail
  go_loopg [4, 5, 6] 120 (fun g sv0 at_ i wx => ∃ (sv : Value) (k : Nat) (l : List Int) (m : Nat), sv = sv0 ∧ k ≤ xs.length ∧ k ≤ 120 ∧ g = 120 - k ∧ i = .int .i64 k ∧ at_ = .int .i64 l.length ∧ EchoAt w wx w.heap.size k l m sv)
  case atStart => exact ⟨_, 0, [], 0, rfl, Nat.zero_le _, by omega, rfl, rfl, rfl, HE.out⟩
  case round =>
    obtain ⟨sv, k, l, m, rfl, hk, hk2, rfl, rfl, rfl, hat⟩ := hrel
    have hll : l.length + m ≤ k := hat.2.2.1
    have HAT := Lib.hid hat; clear hat
    by_cases hboth : k < xs.length ∧ k < 120
    · obtain ⟨hlt, h120⟩ := hboth
      obtain ⟨b1, o1, rfl, hc⟩ := bsl_cell HX.out k hlt
      have hc := (HAT.out.2.2.2.2.cell (p := ⟨b1, o1 + k, none⟩) (HLOW.out (List.ne_nil_of_length_pos (by omega)) b1 rfl)).trans hc
      obtain ⟨x, hx⟩ : ∃ x, x = xs[k] := ⟨_, rfl⟩
      have hxb : 0 ≤ x ∧ x ≤ 255 := by rw [hx]; exact HG.out _ (List.getElem_mem _)
      rw [← hx] at hc
      clear hx
      by_cases hskip : x = 4 ∨ x = 13 ∨ x = 10 ∨ x = 32
      · rcases hskip with rfl | rfl | rfl | rfl
        all_goals
          go_wp2
          go_roundg (120 - (k + 1))
          case measure => omega
          case rel => exact ⟨_, k + 1, l, m, rfl, by omega, by omega, rfl, by go_num, rfl, ⟨HAT.out.1, HAT.out.2.1, by omega, HAT.out.2.2.2⟩⟩
      · have t4 : (x == 4) = false := by simp; omega
        have t13 : (x == 13) = false := by simp; omega
        have t10 : (x == 10) = false := by simp; omega
        have t32 : (x == 32) = false := by simp; omega
        have hst := echo_step l m x (by omega) ⟨by omega, by omega, by omega⟩
        have HT := Lib.hid (type_calls w.heap.size l 0 x wr HAT.out.1 (HK.out.no (Fr.of_below HAT.out.2.2.2.2)) hxb.1 hxb.2)
        clear hskip hxb
        obtain ⟨hF, hN, m', hscr, hle, hEl⟩ := hst
        obtain ⟨E, hE⟩ : ∃ E, E = typE x l 0 := ⟨_, rfl⟩
        obtain ⟨L, hL⟩ : ∃ L, L = typX x l 0 := ⟨_, rfl⟩
        rw [← hE] at hscr hEl
        rw [← hL] at hscr hle
        obtain ⟨M, hM⟩ : ∃ M, M = l.length + m := ⟨_, rfl⟩
        rw [← hM] at hle hll
        have hlM : l.length ≤ M := by omega
        obtain ⟨R, hR⟩ : ∃ R, R = (scrOf L m', L.length) := ⟨_, rfl⟩
        rw [← hR] at hscr
        have POST := Lib.hid (show ∀ e w2, TypePost w.heap.size l 0 x wr e w2 → ∃ ev, e = .returned (.tuple #[ev, .bool false]) ∧ ScrAt w w2 w.heap.size L E ev R M 0 (scrOf l m) l.length sv from by
          intro e w2 hp
          unfold TypePost at hp
          rw [hF, hN, ← hE, ← hL] at hp
          obtain ⟨ev, he, ho, hcon, hf⟩ := hp
          have hat := HAT.out
          refine ⟨ev, he, hcon, ho.base hat.2.2.2.2.size, row_fr hat.2.1 hf (fun q hq => row_ne_con hat.2.1 hat.1 (by decide) q hq), fun q hq hq2 => ?_, hscr, by rw [scrOf_length]; omega, by rw [scrOf_length]; omega, Fr.below_of hat.2.2.2.2 hf hat.2.2.2.2.size (fun q hq => by omega)⟩
          have := (hat.2.1.lt q hq).2
          have := (ho.lt q hq2).1
          omega)
        have HR := Lib.hid hR
        clear hF hN hscr hE hL hM hR
        go_wp2_with fail
        refine HT.out.mono ?_
        intro e w2 hp
        obtain ⟨ev, rfl, hsc⟩ := POST.out e w2 hp
        obtain ⟨ea, ec, rfl⟩ := hsc.2.1.shape
        have HSC := Lib.hid hsc
        clear hp hsc
        go_wp2_with fail
        clear t4 t13 t10 t32
        go_loopg [4, 5, 9] E.length (fun g sv0 at_ kk wx => ∃ (sv : Value) (j a : Nat) (s : List Int), sv = sv0 ∧ j ≤ E.length ∧ g = E.length - j ∧ kk = .int .i64 j ∧ at_ = .int .i64 a ∧ ScrAt w wx w.heap.size L E (.slice ea E.length ec) R M j s a sv)
        case atStart => exact ⟨_, 0, l.length, scrOf l m, rfl, Nat.zero_le _, rfl, rfl, rfl, HSC.out⟩
        case round =>
          obtain ⟨sv, j, a, s, rfl, hj, rfl, rfl, rfl, hsc⟩ := hrel
          have hbl := hsc.2.1.bsl (by omega)
          have hML : s.length ≤ M + j := hsc.2.2.2.2.2.2.1
          have hal : a ≤ s.length := hsc.2.2.2.2.2.1
          have HS := Lib.hid hsc; clear hsc
          have HBL := Lib.hid hbl; clear hbl
          by_cases hjl : j < E.length
          · obtain ⟨be, oe, rfl, hce⟩ := bsl_cell HBL.out j hjl
            obtain ⟨y, hy⟩ : ∃ y, y = E[j] := ⟨_, rfl⟩
            rw [← hy] at hce
            by_cases h8 : y = 8
            · subst h8
              obtain ⟨hpos, hnx⟩ := HS.out.back hjl hy.symm
              have HNX := Lib.hid hnx
              clear hnx hy
              have z1 : (1 : Int) ≤ a := by omega
              go_wp2_with fail
              go_roundg (E.length - (j + 1))
              case measure => omega
              case rel => exact ⟨_, j + 1, a - 1, s, rfl, by omega, rfl, by go_num, by go_num, HNX.out⟩
            · have t8 : (y == 8) = false := by simp [h8]
              by_cases ha : a = s.length
              · subst ha
                obtain ⟨so, sc, rfl, hsc, _⟩ := row_shape HS.out.2.2.1
                have GROW := Lib.hid (fun wy sv' hr hf hn => ScrAt.grow (wy := wy) (sv' := sv') HS.out hjl (by rw [← hy]; exact h8) rfl hr hf hn)
                rw [← hy] at GROW
                have hrow := HS.out.2.2.1
                unfold Row at hrow
                obtain ⟨Ls, hLs⟩ : ∃ Ls, Ls = s.length := ⟨_, rfl⟩
                rw [← hLs] at hrow hML hsc GROW ⊢
                have HROW := Lib.hid hrow
                have HLS := Lib.hid hLs
                have hsz := HS.out.2.2.2.2.2.2.2.size
                clear hrow hLs hy h8
                go_wp2_with (at_builtin; refine wpList_append_one rfl _ _ 22 rfl w.heap.size 5 i0 (.int .u8 0) 1 Tryd.underlying22 hi hz0 hz1 hz2 rfl (.slice so Ls sc) Ls (s.map (Value.int .u8)) rfl (HROW.out.alloc _) _ _ (.int .u8 y) rfl ?cell rfl ?h63 ?hby ?hba ?_)
                case cell => exact (Blk.new _ [Value.int .u8 y] 5).cell 0
                case h63 => unfold maxLen; omega
                case hby => omega
                case hba => simp; omega
                intro sv' w' hown hf hn
                have hst := GROW.out w' sv' (by unfold Row; rw [List.length_append, List.length_singleton, ← HLS.out, List.map_append]; exact hown) (((Fr.refl _ _).alloc _).trans hf (fun _ _ h => h.1)) (fun g hg => by
                  rcases hn g hg with h1 | h1
                  · exact .inl h1
                  · have h2 : wr.heap.size + 1 ≤ g := by simpa using h1
                    exact .inr (by omega))
                have HST := Lib.hid hst; clear hst hf hn hown
                go_wp2_with fail
                go_roundg (E.length - (j + 1))
                case measure => omega
                case rel => exact ⟨_, j + 1, Ls + 1, s ++ [y], rfl, by omega, rfl, by go_num, by go_num, HST.out⟩
              · have hal2 : a < s.length := by omega
                obtain ⟨so, sc, rfl, hsc, _⟩ := row_shape HS.out.2.2.1
                obtain ⟨g, rfl, hgb, hgl, hgc, hgf, hset⟩ := row_at HS.out.2.2.1 a (.int .u8 (s[a]'hal2)) (by simp [hal2])
                have WRITE := Lib.hid (fun wy hr hf => ScrAt.write (wy := wy) HS.out hjl (by rw [← hy]; exact h8) ha hr hf)
                rw [← hy] at WRITE
                have hst := WRITE.out (wr.setCell ⟨g, a, none⟩ (.int .u8 y)) (by unfold Row; rw [List.length_set, List.map_set]; exact hset _) ((Fr.refl (fun k => (Value.slice (some ⟨g, 0, none⟩) s.length sc).ownBlock = some k) wr).setCell (p := ⟨g, a, none⟩) (fun _ => rfl) _)
                have HST := Lib.hid hst
                have hlen2 : (s.set a y).length = s.length := List.length_set
                have HL2 := Lib.hid hlen2
                obtain ⟨S2, hS2⟩ : ∃ S2, S2 = s.set a y := ⟨_, rfl⟩
                rw [← hS2] at HST HL2
                obtain ⟨Ls, hLs⟩ : ∃ Ls, Ls = s.length := ⟨_, rfl⟩
                have ha2 : ((a : Int) == (Ls : Int)) = false := by simp; omega
                have hal3 : a < Ls := by omega
                rw [← hLs] at hsc HST hML ⊢
                clear hst hlen2 hS2 hset hy ha h8 hLs hal
                go_wp2_with fail
                go_roundg (E.length - (j + 1))
                case measure => omega
                case rel => exact ⟨_, j + 1, a + 1, S2, rfl, by omega, rfl, by go_num, by go_num, HST.out⟩
          · obtain rfl : j = E.length := by omega
            have hend : EchoAt w wr w.heap.size (k + 1) L m' sv ∧ (a : Int) = (L.length : Int) := by
              obtain ⟨h1, h2, h3, h4, h5, h6, h7, h9⟩ := HS.out
              rw [List.drop_length, HR.out] at h5
              have h5 : some (s, a) = some (scrOf L m', L.length) := h5
              simp only [Option.some.injEq, Prod.mk.injEq] at h5
              refine ⟨⟨h1, by rw [← h5.1]; exact h3, by omega, Nat.le_refl _, h9⟩, by rw [h5.2]⟩
            have HEND := Lib.hid hend
            clear hend
            go_wp2_with fail
            go_roundg (120 - (k + 1))
            case measure => omega
            case rel => exact ⟨_, k + 1, L, m', rfl, by omega, by omega, rfl, by go_num, by rw [HEND.out.2], HEND.out.1⟩
    · by_cases hA : k < xs.length
      case' pos => have hB : ¬ k < 120 := fun h => hboth ⟨hA, h⟩
      case' neg => have hB : True := trivial
      all_goals
        clear hboth
        have hlc := HAT.out.1.2.1
        have hbel := HAT.out.2.2.2.2
        have hrow := HAT.out.2.1
        have hcon := HAT.out.1
        obtain ⟨so, sc, rfl, hsc, _⟩ := row_shape hrow
        have hbs := BSl.of_own hrow (by rw [scrOf_length]; omega)
        have hhead := hbs.upto l.length (by rw [scrOf_length]; omega)
        rw [show (scrOf l m).take l.length = l by simp [scrOf]] at hhead
        have hcell : ∀ j, l.length ≤ j → j < (scrOf l m).length → ∃ b o, so = some ⟨b, o, none⟩ ∧ wr.cell? ⟨b, o + j, none⟩ = some (.int .u8 32) := fun j h1 h2 => by
          obtain ⟨b, o, h3, h4⟩ := bsl_cell hbs j h2
          refine ⟨b, o, h3, ?_⟩
          rw [h4]
          simp only [scrOf]
          rw [List.getElem_append_right h1]
          simp
        obtain ⟨N, hN⟩ : ∃ N, N = (scrOf l m).length := ⟨_, rfl⟩
        have hlN : l.length ≤ N := by rw [hN, scrOf_length]; omega
        have hNb : N ≤ 250 := by rw [hN, scrOf_length]; omega
        rw [← hN] at hcell hsc ⊢
        have hlsc : l.length ≤ sc := by omega
        have HHEAD := Lib.hid hhead
        have HCELL := Lib.hid hcell
        have HCON := Lib.hid hcon
        have HBEL := Lib.hid hbel
        clear hN hhead hcell hbs hrow hcon hbel HAT
        have hfld := cstate_line
        go_wp2_with fail
        go_region_held3 (fun _ => True) (first | trivial)
          (first
            | (go_at_call 16; refine (state_calls w.heap.size l 0 _ (HCON.out.no (Fr.refl No _).drew)).mono ?_; intro e w2 hp; unfold StatePost at hp; obtain ⟨p1, p2, rfl, hp1, hp2, _, hb2⟩ := hp; rw [List.drop_zero] at hp2; obtain ⟨pa, pc, rfl⟩ := hp2.shape; obtain ⟨qa, qc, rfl⟩ := hp1.shape; have HP2 := Lib.hid hp2; have HB2 := Lib.hid hb2; clear hp1 hp2 hb2)
            | (go_at_call 20; refine (bytes_calls l l _ _ _ (HP2.out.bsl (by omega)) ((HHEAD.out.no (Fr.refl No _).drew).no (Fr.of_below HB2.out))).mono ?_; rw [show decide (l = l) = true from decide_eq_true rfl]; rintro e w' ⟨rfl, n, rfl⟩))
        go_wp2_with fail
        have HW2 := Lib.hid (show Fr No wr (w2.drewN n) from (((Fr.refl No wr).drew).trans (Fr.of_below HB2.out) (fun _ _ h => h)).drewN n)
        clear hfld
        generalize w2.drewN n = W2 at HW2 ⊢
        go_loop [10] (fun i => ∃ j : Nat, l.length ≤ j ∧ j ≤ N ∧ i = .int .i64 j) (fun i => N - (intOf i).toNat)
        case atStart => exact ⟨l.length, Nat.le_refl _, hlN, rfl⟩
        case round =>
          obtain ⟨j, hj1, hj2, rfl⟩ := hrel
          by_cases hj : j < N
          · obtain ⟨b, o, rfl, hc⟩ := HCELL.out j hj1 hj
            have hc := HW2.out.cell hc id
            go_wp2_with fail
            go_round
            case rel => exact ⟨j + 1, by omega, by omega, by go_num⟩
            case measure => simp [intOf]; omega
          · obtain rfl : j = N := by omega
            go_wp2_with fail
            go_ret
            exact ⟨rfl, HBEL.out.trans (HW2.out.below.mono HBEL.out.size)⟩

end Go.Proofs.YtollgpnaadgncaaDoor
