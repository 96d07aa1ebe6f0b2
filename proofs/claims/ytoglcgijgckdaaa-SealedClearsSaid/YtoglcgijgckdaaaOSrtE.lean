/- slices' SortStableFunc at orders. Condition: the row holds 0, 1, 2 .. in its first n places; cmp answers by a key. -/
import Derived.Test.YtoglcgijgckdaaaOSrtD
namespace Go.Proofs.Ytoglcgijgckdaaa
set_option linter.unusedVariables false
set_option linter.unusedSimpArgs false
open Go.RowKit

theorem symm_any (L : Nat → Array Value) (blk n cap : Nat) (K : Nat → Int) (cf : Nat → Nat → Int) (cb : Value) (w0 : World) (hcf : ∀ x y, cf x y < 0 ↔ K x < K y) (hC : CmpAt L w0 blk n cf cb) :
    ∀ l a m b d w, b - a ≤ l → a < m → m < b → b ≤ n → Srt K a m d → Srt K m b d → Low a m b d → RowJ L w0 w blk n d → SymC L K cb blk n cap a m b d w0 w := by
  intro l
  induction l with
  | zero => intro a m b d w h1 h2 h3; omega
  | succ l ih =>
    intro a m b d w h1 h2 h3 hb hs hs' hl hR
    have IH : ∀ a' m' b' d' w', b' - a' < b - a → a' < m' → m' < b' → b' ≤ n → Srt K a' m' d' → Srt K m' b' d' → Low a' m' b' d' → RowJ L w0 w' blk n d' → SymC L K cb blk n cap a' m' b' d' w0 w' :=
      fun a' m' b' d' w' h => ih a' m' b' d' w' (by omega)
    by_cases e1 : m = a + 1
    · subst e1
      exact symm_lo L blk n cap a b d K cf cb w0 w hcf hC hR h3 hb hs' hl
    · by_cases e2 : b = m + 1
      · subst e2
        exact symm_hi L blk n cap a m d K cf cb w0 w hcf hC hR (by omega) hb hs hl
      · by_cases e3 : (a + b) / 2 < m
        · exact symm_up L blk n cap a m b ((a + b) / 2 + m - b) _ _ d K cf cb w0 w hcf hC hR (by omega) (by omega) hb hs hs' hl rfl rfl ⟨e3, by omega⟩ IH
        · exact symm_dn L blk n cap a m b _ _ d K cf cb w0 w hcf hC hR (by omega) (by omega) hb hs hs' hl rfl rfl (by omega) IH

theorem wrapB {n : Nat} {z : Int} (hz : z = (n : Int)) (h : n < 9000000000000) : IntKind.i64.wrap z = (n : Int) := by rw [IntKind.wrap_i64]; omega
theorem ins_at (L : Nat → Array Value) (blk n cap a b : Nat) (za zb : Int) (d : Nat → Nat) (K : Nat → Int) (cf : Nat → Nat → Int) (cb : Value) (w0 w : World) (ea : za = a) (eb : zb = b) (hcf : ∀ x y, cf x y < 0 ↔ K x < K y) (hC : CmpAt L w0 blk n cf cb) (hR : RowJ L w0 w blk n d) (hab : a ≤ b) (hb : b ≤ n) (hd : ∀ k, a ≤ k → k < b → d k = k) :
    Calls Try.prog 20 #[.slice (some ⟨blk, 0, none⟩) n cap, .int .i64 za, .int .i64 zb, .func (.func 14) #[] #[cb]] w fun e w' => e = .returned (.tuple #[]) ∧ ∃ d', RowJ L w0 w' blk n d' ∧ PermOn a b d d' ∧ Srt K a b d' := by
  subst ea; subst eb; exact insort_any L blk n cap a b d K cf cb w0 w hcf hC hR hab hb hd
theorem sym_at (L : Nat → Array Value) (blk n cap a m b : Nat) (za zm zb : Int) (d : Nat → Nat) (K : Nat → Int) (cf : Nat → Nat → Int) (cb : Value) (w0 w : World) (ea : za = a) (em : zm = m) (eb : zb = b) (hcf : ∀ x y, cf x y < 0 ↔ K x < K y) (hC : CmpAt L w0 blk n cf cb) (hR : RowJ L w0 w blk n d) (h1 : a < m) (h2 : m < b) (hb : b ≤ n)
    (hs : Srt K a m d ∧ Srt K m b d ∧ Low a m b d) :
    Calls Try.prog 21 #[.slice (some ⟨blk, 0, none⟩) n cap, .int .i64 za, .int .i64 zm, .int .i64 zb, .func (.func 14) #[] #[cb]] w fun e w' => e = .returned (.tuple #[]) ∧ ∃ d', RowJ L w0 w' blk n d' ∧ PermOn a b d d' ∧ Srt K a b d' := by
  subst ea; subst em; subst eb; exact symm_any L blk n cap K cf cb w0 hcf hC (b - a) a m b d w (Nat.le_refl _) h1 h2 hb hs.1 hs.2.1 hs.2.2 hR

set_option maxRecDepth 100000 in
set_option maxHeartbeats 32000000 in
/-- the first n numbers, sorted by their keys -/
theorem stable_any (L : Nat → Array Value) (blk n cap : Nat) (K : Nat → Int) (cf : Nat → Nat → Int) (cb : Value) (w0 w : World) (hcf : ∀ x y, cf x y < 0 ↔ K x < K y) (hC : CmpAt L w0 blk n cf cb) (hR : RowJ L w0 w blk n id) :
    Calls Try.prog 19 #[.slice (some ⟨blk, 0, none⟩) n cap, .int .i64 n, .func (.func 14) #[] #[cb]] w fun e w' => e = .returned (.tuple #[]) ∧ ∃ d', RowJ L w0 w' blk n d' ∧ PermOn 0 n id d' ∧ Srt K 0 n d' := by
  have hsz := hR.sz
  have H0 := Lib.hid hR
  have INS := Lib.hid (fun (a b : Nat) (d : Nat → Nat) (wr : World) (za zb : Int) (ea : za = a) (eb : zb = b) => ins_at L blk n cap a b za zb d K cf cb w0 wr ea eb hcf hC)
  have SYM := Lib.hid (fun (a m b : Nat) (d : Nat → Nat) (wr : World) (za zm zb : Int) (ea : za = a) (em : zm = m) (eb : zb = b) => sym_at L blk n cap a m b za zm zb d K cf cb w0 wr ea em eb hcf hC)
  clear hR hC hcf
  go_enter Try.func19, Try.ntmps19
  go_wp2
  go_loopg [7, 8] (n / 20 + 1) (fun gh va vb wr => ∃ (t : Nat) (d : Nat → Nat), va = .int .i64 ((t * 20 : Nat) : Int) ∧ vb = .int .i64 ((t * 20 + 20 : Nat) : Int) ∧ t * 20 ≤ n ∧ gh = n / 20 + 1 - t ∧ Begun K 20 n t d ∧ RowJ L w0 wr blk n d)
  case atStart => exact ⟨0, id, by go_num, by go_num, by omega, rfl, begun 20 n, H0.out⟩
  case round =>
    clear H0
    obtain ⟨t, d, rfl, rfl, htn, rfl, hB, hRi⟩ := hrel
    have HB := Lib.hid hB
    have HR := Lib.hid hRi
    clear hB hRi
    obtain ⟨a, ha⟩ : ∃ a, a = t * 20 := ⟨_, rfl⟩
    obtain ⟨b, hb⟩ : ∃ b, b = t * 20 + 20 := ⟨_, rfl⟩
    rw [← hb, ← ha]
    have hlt : (decide ((b : Int) ≤ (n : Int)) = true ∧ b ≤ n) ∨ (decide ((b : Int) ≤ (n : Int)) = false ∧ n < b) := by
      by_cases h : b ≤ n
      · exact .inl ⟨by rw [decide_eq_true_iff]; omega, h⟩
      · exact .inr ⟨by rw [decide_eq_false_iff_not]; omega, by omega⟩
    rcases hlt with ⟨hdk, hbn⟩ | ⟨hdk, hbn⟩
    · have c := INS.out a b d
      have w2 := wrapB (z := (b : Int) + 20) (n := b + 20) (by omega) (by omega)
      go_wp2_with (first | (go_at_call 20; (with_reducible refine (c _ _ _ (by omega) (by omega) HR.out (by omega) hbn (fun k h1 _ => HB.out.left k (by omega))).mono ?_); rintro e wx ⟨rfl, d', hx0, hp, hs⟩))
      go_roundg (n / 20 + 1 - (t + 1))
      case measure => omega
      case rel =>
        subst ha; subst hb
        exact ⟨t + 1, d', by go_num, by go_num, by omega, rfl, HB.out.next (by omega) hp hs, hx0⟩
    · have c := INS.out a n d
      have FIN := Lib.hid (fun (d' : Nat → Nat) (hp : PermOn a n d d') (hs : Srt K a n d') => show Blocks K 20 n d' from by subst ha; exact HB.out.close (by omega) htn hp hs)
      go_wp2_with (first | (go_at_call 20; (with_reducible refine (c _ _ _ (by omega) (by omega) HR.out (by omega) (Nat.le_refl _) (fun k h1 _ => HB.out.left k (by omega))).mono ?_); rintro e wx ⟨rfl, d', hx0, hp, hs⟩))
      have HX := Lib.hid hx0
      have HF := Lib.hid (FIN.out d' hp hs)
      clear hx0 hp hs FIN HB HR c
      clear hdk
      go_loopg [6] (n - 20) (fun gh vc wr => ∃ (c : Nat) (d : Nat → Nat), vc = .int .i64 c ∧ 20 ≤ c ∧ gh = n - c ∧ Blocks K c n d ∧ RowJ L w0 wr blk n d ∧ c < 2000000000000)
      case atStart => exact ⟨20, d', by go_num, by omega, rfl, HF.out, HX.out, by omega⟩
      case round =>
        clear HX HF
        obtain ⟨c, d2, rfl, hc, rfl, hB, hRi, hc2⟩ := hrel
        have HB := Lib.hid hB
        have HR := Lib.hid hRi
        clear hB hRi
        by_cases hcn : c < n
        · have hdk : decide ((c : Int) < (n : Int)) = true := by rw [decide_eq_true_iff]; omega
          obtain ⟨c2, hc2e⟩ : ∃ c2, c2 = 2 * c := ⟨_, rfl⟩
          have wc := wrapB (z := 2 * (c : Int)) (n := c2) (by omega) (by omega)
          have wc' := wrapB (z := (c : Int) * 2) (n := c2) (by omega) (by omega)
          go_wp2
          go_loopg [7, 8] n (fun gh va vb wr => ∃ (a t : Nat) (d : Nat → Nat), va = .int .i64 (a : Int) ∧ vb = .int .i64 ((a + c2 : Nat) : Int) ∧ a = t * (2 * c) ∧ a ≤ n ∧ gh = n - a ∧ Halfway K c n t d ∧ RowJ L w0 wr blk n d)
          case atStart => exact ⟨0, 0, d2, by go_num, by go_num, by omega, by omega, rfl, HB.out.half, HR.out⟩
          case round =>
            clear HR HB
            obtain ⟨a, t, d3, rfl, rfl, hat, han, rfl, hH, hRi⟩ := hrel
            have HH := Lib.hid hH
            have HR := Lib.hid hRi
            clear hH hRi
            obtain ⟨b, hb⟩ : ∃ b, b = a + c2 := ⟨_, rfl⟩
            rw [← hb]
            have wm := wrapB (z := (a : Int) + (c : Int)) (n := a + c) (by omega) (by omega)
            by_cases hbn : b ≤ n
            · have hdb : decide ((b : Int) ≤ (n : Int)) = true := by rw [decide_eq_true_iff]; omega
              have ct := SYM.out a (a + c) b d3
              have w2 := wrapB (z := (b : Int) + (c2 : Int)) (n := b + c2) (by omega) (by omega)
              have ASK := Lib.hid (show Srt K a (a + c) d3 ∧ Srt K (a + c) b d3 ∧ Low a (a + c) b d3 from by
                have := HH.out.ask b hbn (by omega) (by omega) (.inl (by omega)); rw [← hat] at this; exact this)
              have NXT := Lib.hid (fun (d' : Nat → Nat) (hp : PermOn a b d3 d') (hs : Srt K a b d') => show Halfway K c n (t + 1) d' from by
                rw [hb, hat, hc2e] at hp hs; exact HH.out.next (by omega) hp hs)
              have HT := Lib.hid (show b = (t + 1) * (2 * c) from by rw [Nat.add_mul, Nat.one_mul]; omega)
              have hac : a + c < b := by omega
              clear hat
              go_wp2_with (first | (go_at_call 21; (with_reducible refine (ct _ _ _ _ (by omega) (by omega) (by omega) HR.out (by omega) (by omega) hbn ASK.out).mono ?_); rintro e wx ⟨rfl, d', hx0, hp, hs⟩))
              go_roundg (n - b)
              case measure => omega
              case rel => exact ⟨b, t + 1, d', by go_num, by go_num, HT.out, hbn, rfl, NXT.out d' hp hs, hx0⟩
            · have hdb : decide ((b : Int) ≤ (n : Int)) = false := by rw [decide_eq_false_iff_not]; omega
              have CLO := Lib.hid (fun (d' : Nat → Nat) (hp : (n ≤ a + c ∧ d' = d3) ∨ (PermOn a n d3 d' ∧ Srt K a n d')) => show Blocks K c2 n d' from by
                rw [hc2e]; rw [hat] at hp; exact HH.out.close (by omega) hp)
              by_cases hmn : a + c < n
              · have hdm : decide (((a + c : Nat) : Int) < (n : Int)) = true := by rw [decide_eq_true_iff]; omega
                have ct := SYM.out a (a + c) n d3
                have ASK := Lib.hid (show Srt K a (a + c) d3 ∧ Srt K (a + c) n d3 ∧ Low a (a + c) n d3 from by
                  have := HH.out.ask n (Nat.le_refl _) (by omega) (by omega) (.inr rfl); rw [← hat] at this; exact this)
                clear hat
                go_wp2_with (first | (go_at_call 21; (with_reducible refine (ct _ _ _ _ (by omega) (by omega) (by omega) HR.out (by omega) (by omega) (Nat.le_refl _) ASK.out).mono ?_); rintro e wx ⟨rfl, d', hx0, hp, hs⟩))
                go_roundg (n - c2)
                case measure => omega
                case rel => exact ⟨c2, d', by go_num, by omega, rfl, CLO.out d' (.inr ⟨hp, hs⟩), hx0, by omega⟩
              · have hdm : decide (((a + c : Nat) : Int) < (n : Int)) = false := by rw [decide_eq_false_iff_not]; omega
                clear hat
                go_wp2
                go_roundg (n - c2)
                case measure => omega
                case rel => exact ⟨c2, d3, by go_num, by omega, rfl, CLO.out d3 (.inl ⟨by omega, rfl⟩), HR.out, by omega⟩
        · have hdk : decide ((c : Int) < (n : Int)) = false := by rw [decide_eq_false_iff_not]; omega
          go_wp2
          (try simp only [Exit.inBlock, Exit.then]); first | go_end0 | refine bodyPost_ret (results_none rfl _ _ _) rfl ?_
          exact ⟨rfl, d2, HR.out, (HB.out.end (by omega)).1, (HB.out.end (by omega)).2⟩

theorem sorted_any (L : Nat → Array Value) (blk n cap : Nat) (K : Nat → Int) (cf : Nat → Nat → Int) (cb : Value) (w0 w : World) (hcf : ∀ x y, cf x y < 0 ↔ K x < K y) (hC : CmpAt L w0 blk n cf cb) (hR : RowJ L w0 w blk n id) :
    Calls Try.prog 13 #[.slice (some ⟨blk, 0, none⟩) n cap, .func (.func 14) #[] #[cb]] w fun e w' => e = .returned (.tuple #[]) ∧ ∃ d', RowJ L w0 w' blk n d' ∧ PermOn 0 n id d' ∧ Srt K 0 n d' := by
  have c := stable_any L blk n cap K cf cb w0 w hcf hC hR
  clear hC hR hcf
  go_enter Try.func13, Try.ntmps13
  go_wp2_with (first | (go_at_call 19; (with_reducible refine (c).mono ?_); rintro e wx ⟨rfl, hx⟩))
  (try simp only [Exit.inBlock, Exit.then]); first | go_end0 | refine bodyPost_ret (results_none rfl _ _ _) rfl ?_
  exact ⟨rfl, hx⟩
end Go.Proofs.Ytoglcgijgckdaaa
