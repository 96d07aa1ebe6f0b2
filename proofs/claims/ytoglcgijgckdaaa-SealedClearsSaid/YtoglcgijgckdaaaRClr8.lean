/- The document's auction, walked. Condition: the numbers fit their kinds. -/
import Derived.Test.YtoglcgijgckdaaaRClrP8
namespace Go.Proofs.Ytoglcgijgckdaaa
set_option linter.unusedVariables false
set_option linter.unusedSimpArgs false
open Go.RowKit

theorem rowsC_one9 {w : World} {c n : Nat} {a : Option Addr} {L : Nat → Array Value} (h : RowsC w c a n L) (hn : 0 < n) (hL : ∀ i, (L i).size = c) : ∃ g off B t fr, a = some (⟨g, off, none⟩ : Addr) ∧ w.heap[g]? = some (.cells B t fr) ∧ ∀ i, i < n → off + i * c + c ≤ B.size ∧ B.extract (off + i * c) (off + i * c + c) = L i ∧ ∀ j, j < c → B[off + i * c + j]? = (L i)[j]? := by
  obtain ⟨g, off, B, t, fr, rfl, hg, _, _⟩ := h 0 hn
  refine ⟨g, off, B, t, fr, rfl, hg, fun i hi => ?_⟩
  obtain ⟨g2, off2, B2, t2, fr2, ha, hg2, hs, hx⟩ := h i hi
  cases ha
  rw [hg] at hg2
  cases hg2
  refine ⟨hs, hx, fun j hj => ?_⟩
  rw [← hx, Array.getElem?_extract, if_pos (by omega)]
theorem up_bd {sells : Bool} {L : Nat → Array Value} {c : Int} : ∀ k, (∀ i, i < k → 1 ≤ N (L i) 4 ∧ N (L i) 4 ≤ 1000000) → 0 ≤ sg (upTo sells L c) k ∧ sg (upTo sells L c) k ≤ 1000000 * (k : Int)
  | 0, _ => by simp [sg]
  | k + 1, h => by
    have h1 := up_bd (sells := sells) (c := c) k (fun i hi => h i (by omega))
    have h2 := h k (by omega)
    have h3 : 0 ≤ upTo sells L c k ∧ upTo sells L c k ≤ 1000000 := by unfold upTo; split <;> omega
    have e : 1000000 * ((k + 1 : Nat) : Int) = 1000000 * (k : Int) + 1000000 := by omega
    rw [sg, e]
    omega
set_option maxRecDepth 100000 in
set_option maxHeartbeats 4000000 in
theorem at8_any (sells : Bool) (Q : Int) (ad : Option Addr) (n cap : Nat) (L : Nat → Array Value) (c : Int) (w : World) (hL : ∀ i, IsOrd (L i)) (hR : RowsC w 5 ad n L) (hn : n ≤ 50) (hb : ∀ i, i < n → 1 ≤ N (L i) 4 ∧ N (L i) 4 ≤ 1000000) :
    Calls Try.prog 16 #[.bool sells, .int .i64 Q, .slice ad n cap, .int .i64 c] w fun e w' => e = .returned (.int .i64 (atV sells Q L n c)) ∧ w = w' := by
  have HR := Lib.hid hR
  have HL := Lib.hid hL
  have HB := Lib.hid hb
  clear hR hL hb
  go_enter Try.func16, Try.ntmps16
  go_wp2
  go_loopg [9, 10] n (fun gh vs vi wr => ∃ i : Nat, i ≤ n ∧ gh = n - i ∧ vi = .int .i64 i ∧ vs = .int .i64 (sg (upTo sells L (kc sells c)) i) ∧ w = wr)
  case atStart => exact ⟨0, by omega, by omega, rfl, rfl, rfl⟩
  case round =>
    obtain ⟨i, hi, rfl, rfl, rfl, rfl⟩ := hrel
    have hs := up_bd (sells := sells) (c := kc sells c) i (fun j hj => HB.out j (by omega))
    by_cases hlt : i < n
    · have hlti : (i : Int) < (n : Int) := by omega
      obtain ⟨g, off, B, t, fr, rfl, hg, hcl⟩ := rowsC_one9 HR.out (by omega) (fun i => (HL.out i).size)
      have e3 := (hcl i hlt).2.2 3 (by omega)
      have e4 := (hcl i hlt).2.2 4 (by omega)
      rw [(HL.out i).p.1] at e3
      rw [(HL.out i).l.1] at e4
      have hc := cellF hg
      have hbd := HB.out i hlt
      have HNX := Lib.hid (show sg (upTo sells L (kc sells c)) (i + 1) = sg (upTo sells L (kc sells c)) i + (if kc sells (N (L i) 3) ≤ kc sells c then N (L i) 4 else 0) from rfl)
      have CB := Lib.hid (fun w => better_any sells (N (L i) 3) c w)
      have HLE := Lib.hid (kc_le (sells := sells) (x := N (L i) 3) (c := c))
      clear hcl hg
      generalize sg (upTo sells L (kc sells c)) i = s at *
      generalize N (L i) 4 = v at *
      generalize N (L i) 3 = p at *
      by_cases hpc : p = c
      · subst hpc
        go_wp2_with ((go_at_call 17; (with_reducible refine (CB.out _).mono ?_); rintro e w1 ⟨rfl, rfl⟩))
        go_roundg (n - (i + 1))
        case measure => omega
        case rel => exact ⟨i + 1, by omega, rfl, by go_num, by rw [HNX.out, if_pos (Int.le_refl _)], rfl⟩
      · have hpb : (p == c) = false := beq_eq_false_iff_ne.2 hpc
        have HN := Lib.hid hpc
        clear hpc
        cases hbt : betB sells p c
        · rw [hbt] at CB
          have HBT := Lib.hid hbt
          clear hbt
          go_wp2_with ((go_at_call 17; (with_reducible refine (CB.out _).mono ?_); rintro e w1 ⟨rfl, rfl⟩))
          go_roundg (n - (i + 1))
          case measure => omega
          case rel => exact ⟨i + 1, by omega, rfl, by go_num, by rw [HNX.out, if_neg (fun h => by
            rcases HLE.out.2 h with h | h
            · exact HN.out h
            · rw [HBT.out] at h; cases h), Int.add_zero], rfl⟩
        · rw [hbt] at CB
          have HBT := Lib.hid hbt
          clear hbt
          go_wp2_with ((go_at_call 17; (with_reducible refine (CB.out _).mono ?_); rintro e w1 ⟨rfl, rfl⟩))
          go_roundg (n - (i + 1))
          case measure => omega
          case rel => exact ⟨i + 1, by omega, rfl, by go_num, by rw [HNX.out, if_pos (HLE.out.1 (.inr HBT.out))], rfl⟩
    · obtain rfl : i = n := by omega
      have HA := Lib.hid (show atV sells Q L i c = min Q (sg (upTo sells L (kc sells c)) i) from rfl)
      generalize sg (upTo sells L (kc sells c)) i = s at *
      by_cases hq : Q < s
      · go_wp2
        go_ret
        exact ⟨by rw [HA.out, show min Q s = Q by omega]; rfl, rfl⟩
      · go_wp2
        go_ret
        exact ⟨by rw [HA.out, show min Q s = s by omega]; rfl, rfl⟩
def RClrOut (sells : Bool) (Q : Int) (n : Nat) (L : Nat → Array Value) (d : Nat → Nat) (w : World) (e : Ending) (w' : World) : Prop :=
  (clE sells Q L n ≠ 0 ∧ e = .returned (.tuple #[.int .i64 0, .slice none 0 0, .int .i64 (clE sells Q L n)])) ∨
  (clE sells Q L n = 0 ∧ ∃ fv, e = .returned (.tuple #[.int .i64 (prc L d (nf Q (vS L d) n)), fv, .int .i64 0]) ∧ w'.ownsRow w.heap.size 36 3 fv (nf Q (vS L d) n) (flat (fillA Q L d) (nf Q (vS L d) n)))
/-- of the first k, j fills most, and is the best of those -/
def Mx (sells : Bool) (Q : Int) (n : Nat) (L : Nat → Array Value) (k j : Nat) : Prop := ∀ r, r < k → atV sells Q L n (N (L r) 3) < atV sells Q L n (N (L j) 3) ∨ (atV sells Q L n (N (L r) 3) = atV sells Q L n (N (L j) 3) ∧ keyS sells L j ≤ keyS sells L r)
def z50b : Array Value := Array.replicate 50 (.bool false)
/-- which of the bids have theirs already, behind k fills -/
structure Done (b : Nat) (w0 w : World) (gd n : Nat) (t : Nat → Nat) (k : Nat) : Prop where
  row : ∃ A, w.heap[gd]? = some (.cells A 46 (0, 0)) ∧ A.size = 50 ∧ ∀ j, j < n → j < 50 → A[j]? = some (.bool (decide (t j < k)))
  be : Below gd w0 w
  ge : b ≤ gd
theorem Done.below {b : Nat} {w0 w w' : World} {gd n k : Nat} {t : Nat → Nat} (h : Done b w0 w gd n t k) (hb : Below (gd + 1) w w') : Done b w0 w' gd n t k := by
  obtain ⟨A, h1, h2⟩ := h.row
  exact ⟨⟨A, (hb.block gd (by omega)).trans h1, h2⟩, h.be.trans (hb.mono (by omega)), h.ge⟩
theorem Done.set {b : Nat} {w0 w : World} {gd n k x : Nat} {t : Nat → Nat} (h : Done b w0 w gd n t k) (hx : x < 50) (hxt : ∀ j, j < n → (t j = k ↔ j = x)) : Done b w0 (w.setCell ⟨gd, x, none⟩ (.bool true)) gd n t (k + 1) := by
  obtain ⟨A, h1, h2, h3⟩ := h.row
  refine ⟨⟨_, heap_set h1, by simpa using h2, fun j hj h50 => ?_⟩, below_set h.be (Nat.le_refl _), h.ge⟩
  by_cases e : j = x
  · subst e
    rw [Array.getElem?_setIfInBounds_self_of_lt (by omega), decide_eq_true (by have := (hxt j hj).2 rfl; omega)]
  · rw [Array.getElem?_setIfInBounds_ne (by omega), h3 j hj h50]
    have : t j ≠ k := fun e2 => e ((hxt j hj).1 e2)
    congr 2
    rw [decide_eq_decide]; omega
set_option maxRecDepth 100000 in
set_option maxHeartbeats 16000000 in
theorem rclear_any (sells : Bool) (Q : Int) (ad : Option Addr) (n cap : Nat) (L : Nat → Array Value) (d : Nat → Nat) (w : World) (hQ : F64 Q) (hL : ∀ i, IsOrd (L i)) (hR : RowsC w 5 ad n L) (hd : clE sells Q L n = 0 → PermOn 0 n id d ∧ Srt (keyS sells L) 0 n d) :
    Calls Try.prog 9 #[.bool sells, .int .i64 Q, .slice ad n cap] w fun e w' => RClrOut sells Q n L d w e w' ∧ Below w.heap.size w w' := by
  have HR := Lib.hid hR
  have HL := Lib.hid hL
  have HD := Lib.hid hd
  clear hR hL hd
  by_cases h50 : 50 < n
  · have h50i : (50 : Int) < n := by omega
    have HE := Lib.hid (clE_long (sells := sells) (Q := Q) (L := L) h50)
    go_enter Try.func9, Try.ntmps9
    go_wp2
    go_ret3
    exact ⟨.inl ⟨by rw [HE.out]; decide, by rw [HE.out]; rfl⟩, Below.refl _ _⟩
  have h50i : ¬ (50 : Int) < n := by omega
  by_cases hq1 : Q < 1
  · have HE := Lib.hid (clE_bad (sells := sells) (Q := Q) (L := L) h50 (.inl hq1))
    go_enter Try.func9, Try.ntmps9
    go_wp2
    go_ret3
    exact ⟨.inl ⟨by rw [HE.out]; decide, by rw [HE.out]; rfl⟩, Below.refl _ _⟩
  by_cases hq2 : 10000000 < Q
  · have HE := Lib.hid (clE_bad (sells := sells) (Q := Q) (L := L) h50 (.inr (.inl hq2)))
    go_enter Try.func9, Try.ntmps9
    go_wp2
    go_ret3
    exact ⟨.inl ⟨by rw [HE.out]; decide, by rw [HE.out]; rfl⟩, Below.refl _ _⟩
  have HBAD := Lib.hid (show smay sells L n = false → clE sells Q L n = 2 from fun h => clE_bad h50 (.inr (.inr h)))
  go_enter Try.func9, Try.ntmps9
  go_wp2
  go_loopg [9] n (fun gh vi wr => ∃ i : Nat, i ≤ n ∧ gh = n - i ∧ vi = .int .i64 i ∧ smay sells L i = true ∧ Below w.heap.size w wr)
  case atStart => exact ⟨0, by omega, by omega, rfl, rfl, Below.refl _ _⟩
  case round =>
    obtain ⟨i, hi, rfl, rfl, hok, hb⟩ := hrel
    have HB := Lib.hid hb
    have HOK := Lib.hid hok
    clear hb hok
    by_cases hlt : i < n
    · have hlti : (i : Int) < (n : Int) := by omega
      obtain ⟨g, off, B, t, fr, rfl, hg, hcl⟩ := rowsC_one9 HR.out (by omega) (fun i => (HL.out i).size)
      have hgr := kept HB.out hg
      have HG := Lib.hid hg
      have hcl' := hcl i hlt
      have HZ := Lib.hid hcl'.1
      have HEX := Lib.hid hcl'.2.1
      have HCL := Lib.hid hcl
      have e0 := hcl'.2.2 0 (by omega)
      have e2 := hcl'.2.2 2 (by omega)
      rw [(HL.out i).n.1, Nat.add_zero] at e0
      rw [(HL.out i).b] at e2
      have CM := Lib.hid (fun w => romay_any (L i) w (HL.out i))
      have NO := Lib.hid (fun h => HBAD.out (smay_no (sells := sells) (L := L) (k := i) n hlt h))
      clear hcl hcl' hg
      cases hoo : okO (L i)
      · rw [hoo] at CM
        have HE := Lib.hid (NO.out (by rw [hoo]; rfl))
        clear hoo NO
        go_wp2_with (first | ((with_reducible refine at_load 31 ?_); refine wpList_load_part rfl 31 _ rfl (g) (off + i * 5) rfl _ (B) _ _ 5 (hgr) Try.underlying31 rfl (by kernel_rfl) (HZ.out) (L i) (HEX.out) ?_) | (go_at_call 15; (with_reducible refine (CM.out _).mono ?_); rintro e w2 ⟨rfl, hb2⟩))
        go_ret3
        exact ⟨.inl ⟨by rw [HE.out]; decide, by rw [HE.out]; rfl⟩, below_then HB.out hb2⟩
      rw [hoo] at CM
      have HOO := Lib.hid hoo
      clear hoo
      by_cases hbs : Bo (L i) 2 = sells
      · have HBS := Lib.hid hbs
        rw [hbs] at e2
        go_wp2_with (first | ((with_reducible refine at_load 31 ?_); refine wpList_load_part rfl 31 _ rfl (g) (off + i * 5) rfl _ (B) _ _ 5 (hgr) Try.underlying31 rfl (by kernel_rfl) (HZ.out) (L i) (HEX.out) ?_) | (go_at_call 15; (with_reducible refine (CM.out _).mono ?_); rintro e w2 ⟨rfl, hb2⟩; have HB2 := Lib.hid (below_then HB.out hb2); have hc2 := cellF (kept HB2.out HG.out)))
        clear hbs hb2 HB hc2 hgr
        go_loopg [10] i (fun gh vk wx => ∃ k : Nat, k ≤ i ∧ gh = i - k ∧ vk = .int .i64 k ∧ (∀ j, j < k → N (L j) 0 ≠ N (L i) 0) ∧ Below w.heap.size w wx)
        case atStart => exact ⟨0, by omega, by omega, rfl, fun j hj => by omega, HB2.out⟩
        case round =>
          clear HB2
          obtain ⟨k, hk, rfl, rfl, hne, hb⟩ := hrel
          have HB := Lib.hid hb
          have HNE := Lib.hid hne
          clear hb hne
          by_cases hki : k < i
          · have hkii : (k : Int) < (i : Int) := by omega
            have f0 := (HCL.out k (by omega)).2.2 0 (by omega)
            rw [(HL.out k).n.1, Nat.add_zero] at f0
            have HGX := Lib.hid (kept HB.out HG.out)
            have HKN := Lib.hid (fun (h : N (L k) 0 = N (L i) 0) => NO.out (by rw [show sn L i (N (L i) 0) = true from (sn_iff i).2 ⟨k, hki, h⟩]; simp))
            have HEQ := Lib.hid (fun (h : N (L k) 0 ≠ N (L i) 0) => show ∀ j, j < k + 1 → N (L j) 0 ≠ N (L i) 0 from fun j hj => by
              by_cases e : j = k
              · subst e; exact h
              · exact HNE.out j (by omega))
            have hkn : (k : Int) < (n : Int) := by omega
            clear HNE NO
            generalize N (L k) 0 = nk at *
            generalize N (L i) 0 = ni at *
            go_wp2
            by_cases hnn : nk = ni
            · subst hnn
              have HE := Lib.hid (HKN.out rfl)
              refine wp_region_below (by kernel_rfl) (by kernel_rfl) ?_
              repeat (first | ((with_reducible apply q_skip); (case hw => rfl); (try simp only [Act.put, List.setIfInBounds_toArray, List.set_cons_zero, List.set_cons_succ])) | ((with_reducible apply q_val); (case hw => rfl); (case hv => intro wq hbq; have hcL := cellF (kept hbq HGX.out); go_simp; try rfl); (try simp only [Act.put, List.setIfInBounds_toArray, List.set_cons_zero, List.set_cons_succ])))
              refine q_nil ?_
              intro w4 hb4
              go_wp2
              go_ret3
              exact ⟨.inl ⟨by rw [HE.out]; decide, by rw [HE.out]; rfl⟩, below_then HB.out hb4⟩
            · have hnb : (nk == ni) = false := beq_eq_false_iff_ne.2 hnn
              have HE := Lib.hid (HEQ.out hnn)
              clear hnn
              refine wp_region_below (by kernel_rfl) (by kernel_rfl) ?_
              repeat (first | ((with_reducible apply q_skip); (case hw => rfl); (try simp only [Act.put, List.setIfInBounds_toArray, List.set_cons_zero, List.set_cons_succ])) | ((with_reducible apply q_val); (case hw => rfl); (case hv => intro wq hbq; have hcL := cellF (kept hbq HGX.out); go_simp; try rfl); (try simp only [Act.put, List.setIfInBounds_toArray, List.set_cons_zero, List.set_cons_succ])))
              refine q_nil ?_
              intro w4 hb4
              have HB4 := Lib.hid (below_then HB.out hb4)
              go_wp2
              go_roundg (i - (k + 1))
              case measure => omega
              case rel => exact ⟨k + 1, by omega, rfl, by go_num, HE.out, HB4.out⟩
          · obtain rfl : k = i := by omega
            have HNX := Lib.hid (show smay sells L (k + 1) = true from by
              rw [smay, HOK.out, HOO.out, HBS.out]
              have : sn L k (N (L k) 0) = false := by
                rw [Bool.eq_false_iff]
                intro ht
                obtain ⟨j, h1, h2⟩ := (sn_iff k).1 ht
                exact HNE.out j h1 h2
              rw [this]; simp)
            go_wp2
            go_roundg (n - (k + 1))
            case measure => omega
            case rel => exact ⟨k + 1, by omega, rfl, by go_num, HNX.out, HB.out⟩
      · have HE := Lib.hid (NO.out (by simp [hbs]))
        have hne : (Bo (L i) 2 != sells) = true := by simpa using hbs
        clear NO
        generalize Bo (L i) 2 = bu at *
        clear hne
        rcases (show (bu = true ∧ sells = false) ∨ (bu = false ∧ sells = true) from by cases bu <;> cases sells <;> simp at hbs ⊢) with ⟨rfl, rfl⟩ | ⟨rfl, rfl⟩
        · go_wp2_with (first | ((with_reducible refine at_load 31 ?_); refine wpList_load_part rfl 31 _ rfl (g) (off + i * 5) rfl _ (B) _ _ 5 (hgr) Try.underlying31 rfl (by kernel_rfl) (HZ.out) (L i) (HEX.out) ?_) | (go_at_call 15; (with_reducible refine (CM.out _).mono ?_); rintro e w2 ⟨rfl, hb2⟩; have HB2 := Lib.hid (below_then HB.out hb2); have hc2 := cellF (kept HB2.out HG.out)))
          go_ret3
          exact ⟨.inl ⟨by rw [HE.out]; decide, by rw [HE.out]; rfl⟩, HB2.out⟩
        · go_wp2_with (first | ((with_reducible refine at_load 31 ?_); refine wpList_load_part rfl 31 _ rfl (g) (off + i * 5) rfl _ (B) _ _ 5 (hgr) Try.underlying31 rfl (by kernel_rfl) (HZ.out) (L i) (HEX.out) ?_) | (go_at_call 15; (with_reducible refine (CM.out _).mono ?_); rintro e w2 ⟨rfl, hb2⟩; have HB2 := Lib.hid (below_then HB.out hb2); have hc2 := cellF (kept HB2.out HG.out)))
          go_ret3
          exact ⟨.inl ⟨by rw [HE.out]; decide, by rw [HE.out]; rfl⟩, HB2.out⟩
    · obtain rfl : i = n := by omega
      have hE : clE sells Q L i = 0 := clE_ok h50 (by omega) (by omega) HOK.out
      obtain ⟨hp, hs⟩ := HD.out hE
      obtain ⟨t, hA⟩ := auc_of hE hp hs
      have HA := Lib.hid hA
      have HE := Lib.hid hE
      clear hE hp hs hA HBAD HD HOK
      by_cases hn0 : i = 0
      · subst hn0
        go_wp2
        go_ret3
        exact ⟨.inr ⟨HE.out, .slice none 0 0, rfl, World.ownsRow_nil _ _ _ _⟩, HB.out⟩
      have hip : 0 < i := by omega
      have hipi : (0 : Int) < (i : Int) := by omega
      have hib : ((i : Int) == 0) = false := beq_eq_false_iff_ne.2 (by omega)
      have hi0 : ¬ (i : Int) = 0 := by omega
      obtain ⟨g, off, B, tt, fr, rfl, hg, hcl⟩ := rowsC_one9 HR.out hip (fun i => (HL.out i).size)
      have HG := Lib.hid hg
      have HCL := Lib.hid (fun r hr => (hcl r hr).2.2)
      have e3 := HCL.out 0 hip 3 (by omega)
      rw [(HL.out 0).p.1, Nat.zero_mul, Nat.add_zero] at e3
      have hgr := kept HB.out hg
      have hcg := cellF hgr
      have CA := Lib.hid (fun c wx (hb : Below w.heap.size w wx) => at8_any sells Q (some ⟨g, off, none⟩) i cap L c wx HL.out (HR.out.kept hb) (by omega) (fun j hj => (HA.out.bd hj).2))
      have CAR := fun c => CA.out c wr HB.out
      have CAR := Lib.hid CAR
      clear hcl hg hgr
      have HST := Lib.hid (show Mx sells Q i L 1 0 from fun r hr => by
        have e : r = 0 := by omega
        subst e
        exact .inr ⟨rfl, Int.le_refl _⟩)
      go_wp2
      clear hcg e3
      go_loopg [11, 12] (i - 1) (fun gh vp vi wx => ∃ k j : Nat, j < k ∧ k ≤ i ∧ gh = i - k ∧ vi = .int .i64 k ∧ vp = .int .i64 (N (L j) 3) ∧ Mx sells Q i L k j ∧ wr = wx)
      case atStart => exact ⟨1, 0, by omega, by omega, rfl, rfl, rfl, HST.out, rfl⟩
      case round =>
        obtain ⟨k, j, hjk, hki, rfl, rfl, rfl, hmx, rfl⟩ := hrel
        have HMX := Lib.hid hmx
        clear hmx
        by_cases hlt2 : k < i
        · have hlti : (k : Int) < (i : Int) := by omega
          have e3 := HCL.out k hlt2 3 (by omega)
          rw [(HL.out k).p.1] at e3
          have hcg := cellF (kept HB.out HG.out)
          have ca := CAR.out (N (L k) 3)
          have cb := CAR.out (N (L j) 3)
          have CB := Lib.hid (fun w => better_any sells (N (L k) 3) (N (L j) 3) w)
          have HBT := Lib.hid (kc_lt (sells := sells) (x := N (L k) 3) (c := N (L j) 3))
          rw [kc_key, kc_key] at HBT
          have KEEP := Lib.hid (show (atV sells Q L i (N (L k) 3) < atV sells Q L i (N (L j) 3) ∨ (atV sells Q L i (N (L k) 3) = atV sells Q L i (N (L j) 3) ∧ ¬ keyS sells L k < keyS sells L j)) → Mx sells Q i L (k + 1) j from fun h r hr => by
            by_cases e : r = k
            · subst e; omega
            · exact HMX.out r (by omega))
          have TAKE := Lib.hid (show (atV sells Q L i (N (L j) 3) < atV sells Q L i (N (L k) 3) ∨ (atV sells Q L i (N (L k) 3) = atV sells Q L i (N (L j) 3) ∧ keyS sells L k < keyS sells L j)) → Mx sells Q i L (k + 1) k from fun h r hr => by
            by_cases e : r = k
            · subst e; exact .inr ⟨rfl, Int.le_refl _⟩
            · have := HMX.out r (by omega)
              omega)
          clear HMX
          generalize hav : atV sells Q L i (N (L k) 3) = av at *
          generalize hbv : atV sells Q L i (N (L j) 3) = bv at *
          generalize keyS sells L k = kk at *
          generalize keyS sells L j = kj at *
          clear hav hbv
          rcases Int.lt_trichotomy av bv with hc | hc | hc
          · have hnb : ¬ bv < av := by omega
            have hne : (av == bv) = false := beq_eq_false_iff_ne.2 (by omega)
            have HK := Lib.hid (KEEP.out (.inl hc))
            clear KEEP TAKE HBT
            go_wp2_with (first | (go_at_call 16; (with_reducible refine (ca).mono ?_); rintro e w1 ⟨rfl, rfl⟩) | (go_at_call 16; (with_reducible refine (cb).mono ?_); rintro e w1 ⟨rfl, rfl⟩) | (go_at_call 17; (with_reducible refine (CB.out _).mono ?_); rintro e w1 ⟨rfl, rfl⟩))
            go_roundg (i - (k + 1))
            case measure => omega
            case rel => exact ⟨k + 1, j, by omega, by omega, rfl, by go_num, rfl, HK.out, rfl⟩
          · subst hc
            cases hbt : betB sells (N (L k) 3) (N (L j) 3)
            · rw [hbt] at CB
              have HK := Lib.hid (KEEP.out (.inr ⟨rfl, fun h => by rw [HBT.out.2 h] at hbt; cases hbt⟩))
              clear hbt
              clear KEEP TAKE HBT
              go_wp2_with (first | (go_at_call 16; (with_reducible refine (ca).mono ?_); rintro e w1 ⟨rfl, rfl⟩) | (go_at_call 16; (with_reducible refine (cb).mono ?_); rintro e w1 ⟨rfl, rfl⟩) | (go_at_call 17; (with_reducible refine (CB.out _).mono ?_); rintro e w1 ⟨rfl, rfl⟩))
              go_roundg (i - (k + 1))
              case measure => omega
              case rel => exact ⟨k + 1, j, by omega, by omega, rfl, by go_num, rfl, HK.out, rfl⟩
            · rw [hbt] at CB
              have HK := Lib.hid (TAKE.out (.inr ⟨rfl, HBT.out.1 hbt⟩))
              clear hbt
              clear KEEP TAKE HBT
              go_wp2_with (first | (go_at_call 16; (with_reducible refine (ca).mono ?_); rintro e w1 ⟨rfl, rfl⟩) | (go_at_call 16; (with_reducible refine (cb).mono ?_); rintro e w1 ⟨rfl, rfl⟩) | (go_at_call 17; (with_reducible refine (CB.out _).mono ?_); rintro e w1 ⟨rfl, rfl⟩))
              go_roundg (i - (k + 1))
              case measure => omega
              case rel => exact ⟨k + 1, k, by omega, by omega, rfl, by go_num, rfl, HK.out, rfl⟩
          · have HK := Lib.hid (TAKE.out (.inl hc))
            clear KEEP TAKE HBT
            go_wp2_with (first | (go_at_call 16; (with_reducible refine (ca).mono ?_); rintro e w1 ⟨rfl, rfl⟩) | (go_at_call 16; (with_reducible refine (cb).mono ?_); rintro e w1 ⟨rfl, rfl⟩) | (go_at_call 17; (with_reducible refine (CB.out _).mono ?_); rintro e w1 ⟨rfl, rfl⟩))
            go_roundg (i - (k + 1))
            case measure => omega
            case rel => exact ⟨k + 1, k, by omega, by omega, rfl, by go_num, rfl, HK.out, rfl⟩
        · obtain rfl : k = i := by omega
          obtain ⟨hpr, hat⟩ := HA.out.price_is hip hjk HMX.out
          have ATP := Lib.hid (hpr ▸ hat)
          have ca := CAR.out (N (L j) 3)
          rw [hat] at ca
          rw [hpr] at ca ⊢
          clear HMX hat hpr CAR hjk
          obtain ⟨m, hm⟩ : ∃ m, m = nf Q (vS L d) k := ⟨_, rfl⟩
          have HM := Lib.hid hm
          rw [← hm] at ca ⊢
          obtain ⟨pv, hpv⟩ : ∃ pv, pv = prc L d m := ⟨_, rfl⟩
          have HPV := Lib.hid hpv
          rw [← hpv] at ca ⊢
          rw [← HM.out, ← hpv] at ATP
          have hmk : m ≤ k := by rw [hm]; exact nf_le k
          clear hm hpv
          have hD0 : Done w.heap.size wr (wr.alloc (Obj.cells z50b 46)) wr.heap.size k t 0 := by
            refine ⟨⟨z50b, heap_alloc_new _ _, by decide, fun j hj h50 => ?_⟩, below_new _ _, by have := HB.out.size; omega⟩
            have : z50b[j]? = some (.bool false) := by unfold z50b; rw [Array.getElem?_replicate, if_pos h50]
            rw [this, decide_eq_false (by omega)]
          have ca2 := CA.out pv (wr.alloc (Obj.cells z50b 46)) (HB.out.trans ((below_new wr _).mono HB.out.size))
          rw [show atV sells Q L k pv = tot Q k L from ATP.out] at ca2
          have hrp := HA.out.rest_pos (k := 0) (by omega)
          have HD0 := Lib.hid hD0
          have HT0 := Lib.hid (show tot Q k L = rest8 Q k L d 0 from by unfold rest8; simp [sg])
          rw [HT0.out] at ca2
          clear hD0 ca hrp
          go_wp2_with (first | ((with_reducible refine at_alloc 46 ?_); refine wpList_alloc_named rfl 46 rfl (z50b) (by kernel_rfl) ?_) | (go_at_call 16; (with_reducible refine (ca2).mono ?_); rintro e w1 ⟨rfl, rfl⟩))
          clear ca2
          obtain ⟨wa, hwa⟩ : ∃ wa, wa = wr.alloc (Obj.cells z50b 46) := ⟨_, rfl⟩
          rw [← hwa] at HD0 ⊢
          clear hwa
          generalize hw5 : wr = w5 at *
          clear hw5
          go_loopg [16, 18] m (fun gh vf vl wx => ∃ r : Nat, r ≤ m ∧ gh = m - r ∧ vl = .int .i64 (rest8 Q k L d r) ∧ Done w.heap.size w5 wx w5.heap.size k t r ∧ wx.ownsRow (w5.heap.size + 1) 36 3 vf r (flat (fillA Q L d) r))
          case atStart => exact ⟨0, by omega, by omega, rfl, HD0.out, World.ownsRow_nil _ _ _ _⟩
          case round =>
            clear HD0
            obtain ⟨r, hr, rfl, rfl, hD, ho⟩ := hrel
            have HDN := Lib.hid hD
            have HO := Lib.hid ho
            clear hD ho
            obtain ⟨rp1, rp2⟩ := HA.out.rest_pos (k := r) (by rw [← HM.out]; exact hr)
            rw [← HM.out] at rp2
            by_cases hrm : r < m
            · have hlp := rp2.2 hrm
              have HRG := Lib.hid (HA.out.rest_gv (k := r) (by rw [← HM.out]; exact hrm))
              have HRN := Lib.hid (rest_next (Q := Q) (n := k) (L := L) (d := d) r)
              have HDR := Lib.hid (And.intro (HA.out.dl r (by omega)) (HA.out.td r))
              clear rp2
              have HREST := Lib.hid (show rest8 Q k L d r ≤ 10000000 from by
                have h1 := sg_pos (f := gv Q (vS L d)) r (fun i hi => HA.out.gv0 (by omega))
                have h2 := HA.out.q2
                unfold rest8 tot; omega)
              generalize hrest : rest8 Q k L d r = le at *
              clear hrest
              go_wp2
              go_loopg [19, 20] k (fun gh vb vi wx => ∃ (q : Nat) (b : Int), q ≤ k ∧ gh = k - q ∧ vi = .int .i64 q ∧ vb = .int .i64 b ∧ ((b = -1 ∧ ∀ x, x < q → t x < r) ∨ ∃ y : Nat, b = y ∧ y < q ∧ r ≤ t y ∧ ∀ x, x < q → r ≤ t x → t y ≤ t x) ∧ Done w.heap.size w5 wx w5.heap.size k t r ∧ wx.ownsRow (w5.heap.size + 1) 36 3 u16 r (flat (fillA Q L d) r))
              case atStart => exact ⟨0, -1, by omega, by omega, rfl, rfl, .inl ⟨rfl, fun x hx => by omega⟩, HDN.out, HO.out⟩
              case round =>
                clear HDN HO
                obtain ⟨q, b, hq, rfl, rfl, rfl, hbest, hD, ho⟩ := hrel
                have HDN := Lib.hid hD
                have HO := Lib.hid ho
                have HBT := Lib.hid hbest
                clear hD ho hbest
                obtain ⟨A, hgA, hAs, hAc⟩ := HDN.out.row
                have HGA := Lib.hid hgA
                have HGX := Lib.hid (kept (HB.out.trans (HDN.out.be.mono HB.out.size)) HG.out)
                have hgdx : w5.heap.size + 1 ≤ wr.heap.size := (Array.getElem?_eq_some_iff.1 hgA).1
                by_cases hqk : q < k
                · have hqki : (q : Int) < (k : Int) := by omega
                  have hq50 : (q : Int) < 50 := by omega
                  have a1 := hAc q hqk (by omega)
                  have a1' : ∀ h : q < A.size, A[q]'h = .bool (decide (t q < r)) := fun h => by have := a1; rw [Array.getElem?_eq_getElem h] at this; exact Option.some.inj this
                  have e3 := HCL.out q hqk 3 (by omega)
                  rw [(HL.out q).p.1] at e3
                  clear hAc hgA
                  go_upto_region 34 with fail
                  go_cut [145] from 124 to 145 (fun v wy => (∃ c : Bool, v = .bool c ∧ (c = true → ((∃ y : Nat, (q : Int) = y ∧ y < q + 1 ∧ r ≤ t y ∧ ∀ x, x < q + 1 → r ≤ t x → t y ≤ t x))) ∧ (c = false → ((b = -1 ∧ ∀ x, x < q + 1 → t x < r) ∨ ∃ y : Nat, b = y ∧ y < q + 1 ∧ r ≤ t y ∧ ∀ x, x < q + 1 → r ≤ t x → t y ≤ t x))) ∧ Done w.heap.size w5 wy w5.heap.size k t r ∧ wy.ownsRow (w5.heap.size + 1) 36 3 u16 r (flat (fillA Q L d) r))
                  case first =>
                    have HKP := Lib.hid (fun (wy : World) (hb : Below wr.heap.size wr wy) => show Done w.heap.size w5 wy w5.heap.size k t r ∧ wy.ownsRow (w5.heap.size + 1) 36 3 u16 r (flat (fillA Q L d) r) from ⟨HDN.out.below (hb.mono hgdx), own_below hb HO.out⟩)
                    by_cases htq : t q < r
                    · have hd1 := Lib.hid (decide_eq_true htq)
                      rw [hd1.out] at a1 a1'
                      have HC := Lib.hid (show (b = -1 ∧ ∀ x, x < q + 1 → t x < r) ∨ ∃ y : Nat, b = y ∧ y < q + 1 ∧ r ≤ t y ∧ ∀ x, x < q + 1 → r ≤ t x → t y ≤ t x from by
                        rcases HBT.out with ⟨h1, h2⟩ | ⟨y, h1, h2, h3, h4⟩
                        · exact .inl ⟨h1, fun x hx => by
                            by_cases e : x = q
                            · subst e; exact htq
                            · exact h2 x (by omega)⟩
                        · exact .inr ⟨y, h1, by omega, h3, fun x hx hr2 => by
                            by_cases e : x = q
                            · subst e; omega
                            · exact h4 x (by omega) hr2⟩)
                      have hd2 := hd1
                      clear HBT
                      refine wp_region_below (by kernel_rfl) (by kernel_rfl) ?_
                      repeat (first | ((with_reducible apply q_skip); (case hw => rfl); (try simp only [Act.put, List.setIfInBounds_toArray, List.set_cons_zero, List.set_cons_succ])) | ((with_reducible apply q_val); (case hw => rfl); (case hv => intro wq hbq; have hcL := cellF (kept hbq HGX.out); have hcA := cellF (kept hbq HGA.out); go_simp; try rfl); (try simp only [Act.put, List.setIfInBounds_toArray, List.set_cons_zero, List.set_cons_succ])))
                      refine q_nil ?_
                      intro w4 hb4
                      go_wp2
                      go_meet
                      exact ⟨⟨false, rfl, (fun h => by cases h), fun _ => HC.out⟩, HKP.out _ hb4⟩
                    · have hd1 := Lib.hid (decide_eq_false htq)
                      rw [hd1.out] at a1 a1'
                      rcases HBT.out with ⟨hb1, h2⟩ | ⟨y, hb1, h2, h3, h4⟩
                      · subst hb1
                        have HC := Lib.hid (show ∃ y : Nat, (q : Int) = y ∧ y < q + 1 ∧ r ≤ t y ∧ ∀ x, x < q + 1 → r ≤ t x → t y ≤ t x from ⟨q, rfl, by omega, by omega, fun x hx hr2 => by
                            by_cases e : x = q
                            · subst e; exact Nat.le_refl _
                            · have := h2 x (by omega); omega⟩)
                        have hd2 := hd1
                        clear HBT h2
                        refine wp_region_below (by kernel_rfl) (by kernel_rfl) ?_
                        repeat (first | ((with_reducible apply q_skip); (case hw => rfl); (try simp only [Act.put, List.setIfInBounds_toArray, List.set_cons_zero, List.set_cons_succ])) | ((with_reducible apply q_val); (case hw => rfl); (case hv => intro wq hbq; have hcL := cellF (kept hbq HGX.out); have hcA := cellF (kept hbq HGA.out); go_simp; try rfl); (try simp only [Act.put, List.setIfInBounds_toArray, List.set_cons_zero, List.set_cons_succ])))
                        refine q_nil ?_
                        intro w4 hb4
                        go_wp2
                        go_meet
                        exact ⟨⟨true, rfl, fun _ => HC.out, (fun h => by cases h)⟩, HKP.out _ hb4⟩
                      · subst hb1
                        have f3 := HCL.out y (by omega) 3 (by omega)
                        rw [(HL.out y).p.1] at f3
                        have CB := Lib.hid (fun w => better_any sells (N (L q) 3) (N (L y) 3) w)
                        have hah := HA.out.ahead (i := q) (b := y) h2 hqk
                        have hyk : (y : Int) < (k : Int) := by omega
                        have hd2 := Lib.hid (decide_eq_false (show ¬ (y : Int) < 0 by omega))
                        cases hbt : betB sells (N (L q) 3) (N (L y) 3)
                        · rw [hbt] at CB hah
                          have HC := Lib.hid (show ∃ y' : Nat, (y : Int) = y' ∧ y' < q + 1 ∧ r ≤ t y' ∧ ∀ x, x < q + 1 → r ≤ t x → t y' ≤ t x from ⟨y, rfl, by omega, h3, fun x hx hr2 => by
                            by_cases e : x = q
                            · subst e
                              have : ¬ t x < t y := fun h => by have := hah.2 h; cases this
                              omega
                            · exact h4 x (by omega) hr2⟩)
                          clear HBT h4 hah hbt
                          refine wp_region_below (by kernel_rfl) (by kernel_rfl) ?_
                          repeat (first | ((with_reducible apply q_skip); (case hw => rfl); (try simp only [Act.put, List.setIfInBounds_toArray, List.set_cons_zero, List.set_cons_succ, hd2.out])) | ((with_reducible refine at_qcall 17 ?_); refine q_call_same _ 17 _ (by rfl) (CB.out) (fun wq hbq => by go_simp) ?_; try simp only [Act.put, List.setIfInBounds_toArray, List.set_cons_zero, List.set_cons_succ]) | ((with_reducible apply q_val); (case hw => rfl); (case hv => intro wq hbq; have hcL := cellF (kept hbq HGX.out); have hcA := cellF (kept hbq HGA.out); go_simp; try rfl); (try simp only [Act.put, List.setIfInBounds_toArray, List.set_cons_zero, List.set_cons_succ, hd2.out])))
                          refine q_nil ?_
                          intro w4 hb4
                          go_wp2
                          go_meet
                          exact ⟨⟨false, rfl, (fun h => by cases h), fun _ => .inr HC.out⟩, HKP.out _ hb4⟩
                        · rw [hbt] at CB hah
                          have HC := Lib.hid (show ∃ y' : Nat, (q : Int) = y' ∧ y' < q + 1 ∧ r ≤ t y' ∧ ∀ x, x < q + 1 → r ≤ t x → t y' ≤ t x from ⟨q, rfl, by omega, by omega, fun x hx hr2 => by
                            by_cases e : x = q
                            · subst e; exact Nat.le_refl _
                            · have := h4 x (by omega) hr2
                              have := hah.1 rfl
                              omega⟩)
                          clear HBT h4 hah hbt
                          refine wp_region_below (by kernel_rfl) (by kernel_rfl) ?_
                          repeat (first | ((with_reducible apply q_skip); (case hw => rfl); (try simp only [Act.put, List.setIfInBounds_toArray, List.set_cons_zero, List.set_cons_succ, hd2.out])) | ((with_reducible refine at_qcall 17 ?_); refine q_call_same _ 17 _ (by rfl) (CB.out) (fun wq hbq => by go_simp) ?_; try simp only [Act.put, List.setIfInBounds_toArray, List.set_cons_zero, List.set_cons_succ]) | ((with_reducible apply q_val); (case hw => rfl); (case hv => intro wq hbq; have hcL := cellF (kept hbq HGX.out); have hcA := cellF (kept hbq HGA.out); go_simp; try rfl); (try simp only [Act.put, List.setIfInBounds_toArray, List.set_cons_zero, List.set_cons_succ, hd2.out])))
                          refine q_nil ?_
                          intro w4 hb4
                          go_wp2
                          go_meet
                          exact ⟨⟨true, rfl, fun _ => HC.out, (fun h => by cases h)⟩, HKP.out _ hb4⟩
                  case rest =>
                    obtain ⟨⟨c, rfl, h1, h2⟩, hD, ho⟩ := hcut
                    have HDN := Lib.hid hD
                    have HO := Lib.hid ho
                    cases c
                    · have HC := Lib.hid (h2 rfl)
                      clear h1 h2 hD ho HBT a1 a1'
                      go_wp2
                      go_roundg (k - (q + 1))
                      case measure => omega
                      case rel => exact ⟨q + 1, b, by omega, rfl, by go_num, rfl, HC.out, HDN.out, HO.out⟩
                    · have HC := Lib.hid (h1 rfl)
                      clear h1 h2 hD ho HBT a1 a1'
                      go_wp2
                      go_roundg (k - (q + 1))
                      case measure => omega
                      case rel => exact ⟨q + 1, (q : Int), by omega, rfl, by go_num, rfl, .inr HC.out, HDN.out, HO.out⟩
                · obtain rfl : q = k := by omega
                  have hbd : b = ((d r : Nat) : Int) := by
                    obtain ⟨h1, h2⟩ := HDR.out
                    rcases HBT.out with ⟨_, h4⟩ | ⟨y, h3, h4, h5, h6⟩
                    · have := h4 (d r) h1
                      omega
                    · have := h6 (d r) h1 (by omega)
                      have e : t y = r := by omega
                      have e2 := HA.out.dt y
                      rw [e] at e2
                      rw [h3, e2]
                  have hdl := HDR.out.1
                  have HTD := Lib.hid (show ∀ j, j < q → (t j = r ↔ j = d r) from fun j _ => ⟨fun e => by rw [← e, HA.out.dt], fun e => by rw [e, HDR.out.2]⟩)
                  have e0 := HCL.out (d r) hdl 0 (by omega)
                  have e1 := HCL.out (d r) hdl 1 (by omega)
                  have e4 := HCL.out (d r) hdl 4 (by omega)
                  rw [(HL.out (d r)).n.1, Nat.add_zero] at e0
                  rw [(HL.out (d r)).a.1] at e1
                  rw [(HL.out (d r)).l.1] at e4
                  have hvv : vS L d r = N (L (d r)) 4 := rfl
                  have hvb := (HA.out.bd hdl).2
                  have hlb : le ≤ 10000000 := by
                    have := HREST.out
                    omega
                  rw [hvv] at HRG
                  have HFN := Lib.hid (show flat (fillA Q L d) (r + 1) = flat (fillA Q L d) r ++ (fA (N (L (d r)) 0) (N (L (d r)) 1) (gv Q (vS L d) r)).toList from rfl)
                  clear HBT hvv hAc hgA
                  subst hbd
                  generalize hx0 : d r = x at *
                  generalize N (L x) 0 = nn at *
                  generalize N (L x) 1 = aa at *
                  generalize N (L x) 4 = vv at *
                  have HX0 := Lib.hid hx0
                  clear hx0
                  have hxq : (x : Int) < (q : Int) := by omega
                  have hx50 : (x : Int) < 50 := by omega
                  have hcg := cellF HGX.out
                  obtain ⟨cA, fA', lA⟩ := cells_of HGA.out
                  obtain ⟨ax, hax⟩ : ∃ v, A[x]? = some v := ⟨_, Array.getElem?_eq_getElem (by omega)⟩
                  have HDX := Lib.hid (HDN.out.set (x := x) (by omega) HTD.out)
                  have HOX := Lib.hid (ownsRow_setCell_other HO.out (a := ⟨w5.heap.size, x, none⟩) (fun e => by have h1 : w5.heap.size + 1 ≤ w5.heap.size := (HO.out.lt _ e).1; omega) (.bool true))
                  have hgne : g ≠ w5.heap.size := fun e => by have h1 := (Array.getElem?_eq_some_iff.1 HG.out).1; have h2 := HB.out.size; omega
                  have HGX2 := Lib.hid (heap_set_other (g := w5.heap.size) (i := x) (v := .bool true) HGX.out hgne)
                  by_cases hvl : le < vv
                  · have hgg : gv Q (vS L d) r = le := by rw [← HRG.out]; omega
                    rw [hgg] at HFN HRN
                    go_upto_region 41 with fail
                    clear hcg cA fA' lA
                    obtain ⟨w6, hw6⟩ : ∃ w6, w6 = wr.setCell ⟨w5.heap.size, x, none⟩ (.bool true) := ⟨_, rfl⟩
                    rw [← hw6] at HDX HOX HGX2 ⊢
                    clear hw6
                    refine wp_region_held (S := fun wt => wt.heap[g]? = some (.cells B tt fr)) (by kernel_rfl) ?_
                    change wpAnyH _ _ _ _ _ _ _ _ (World.drew _)
                    obtain ⟨wc, hwc⟩ : ∃ wc, wc = World.drew w6 := ⟨_, rfl⟩
                    have HS : wc.heap[g]? = some (.cells B tt fr) := by rw [hwc]; exact HGX2.out
                    have HDY := Lib.hid (show Done w.heap.size w5 wc w5.heap.size q t (r + 1) from by rw [hwc]; exact HDX.out.below (Below.drew (Below.refl _ _)))
                    have HOY := Lib.hid (show wc.ownsRow (w5.heap.size + 1) 36 3 u16 r (flat (fillA Q L d) r) from by rw [hwc]; exact HOX.out)
                    rw [← hwc]
                    clear hwc HDX HOX HGX2
                    have hwcz : w5.heap.size + 1 ≤ wc.heap.size := by obtain ⟨A9, h9, _⟩ := HDY.out.row; exact (Array.getElem?_eq_some_iff.1 h9).1
                    (refine wpAnyH_take (i := 0) (v := ?_) rfl (by kernel_rfl) (by kernel_rfl) (by kernel_rfl) (fun _ _ _ h => h) (Or.inl ⟨by rfl, ?ht_0⟩) HS ?_); (case ht_0 => (intro wt hS; go_simp; try with_reducible rfl)); (try simp only [Act.put, List.getElem_toArray, List.getElem_cons_zero, List.getElem_cons_succ, List.setIfInBounds_toArray, List.set_cons_zero, List.set_cons_succ]); (refine wpAnyH_take (i := 1) (v := ?_) rfl (by kernel_rfl) (by kernel_rfl) (by kernel_rfl) (fun _ _ _ h => h) (Or.inl ⟨by rfl, ?ht_1⟩) HS ?_); (case ht_1 => (intro wt hS; go_simp; try with_reducible rfl)); (try simp only [Act.put, List.getElem_toArray, List.getElem_cons_zero, List.getElem_cons_succ, List.setIfInBounds_toArray, List.set_cons_zero, List.set_cons_succ]); (refine wpAnyH_take (i := 2) (v := ?_) rfl (by kernel_rfl) (by kernel_rfl) (by kernel_rfl) (fun _ _ _ h => h) (Or.inl ⟨by rfl, ?ht_2⟩) HS ?_); (case ht_2 => (intro wt hS; go_simp; try with_reducible rfl)); (try simp only [Act.put, List.getElem_toArray, List.getElem_cons_zero, List.getElem_cons_succ, List.setIfInBounds_toArray, List.set_cons_zero, List.set_cons_succ]); (refine wpAnyH_take (i := 3) (v := ?_) rfl (by kernel_rfl) (by kernel_rfl) (by kernel_rfl) (fun _ _ _ h => h) (Or.inl ⟨by rfl, ?ht_3⟩) HS ?_); (case ht_3 => (intro wt hS; go_simp; try with_reducible rfl)); (try simp only [Act.put, List.getElem_toArray, List.getElem_cons_zero, List.getElem_cons_succ, List.setIfInBounds_toArray, List.set_cons_zero, List.set_cons_succ]); (refine wpAnyH_take (i := 4) (v := ?_) rfl (by kernel_rfl) (by kernel_rfl) (by kernel_rfl) (fun _ _ _ h => h) (Or.inl ⟨by rfl, ?ht_4⟩) HS ?_); (case ht_4 => (intro wt hS; go_simp; try with_reducible rfl)); (try simp only [Act.put, List.getElem_toArray, List.getElem_cons_zero, List.getElem_cons_succ, List.setIfInBounds_toArray, List.set_cons_zero, List.set_cons_succ])
                    (refine wpAnyH_take (i := 5) (v := .int .u64 nn) rfl (by kernel_rfl) (by kernel_rfl) (by kernel_rfl) (fun _ _ _ h => h) (Or.inl ⟨by rfl, ?ht_5⟩) HS ?_); (case ht_5 => (intro wt hS; have cg := cellF hS; go_simp; try with_reducible rfl)); (try simp only [Act.put, List.getElem_toArray, List.getElem_cons_zero, List.getElem_cons_succ, List.setIfInBounds_toArray, List.set_cons_zero, List.set_cons_succ])
                    (refine wpAnyH_take (i := 6) (v := ?_) rfl (by kernel_rfl) (by kernel_rfl) (by kernel_rfl) (fun _ _ _ h => h) (Or.inl ⟨by rfl, ?ht_6⟩) HS ?_); (case ht_6 => (intro wt hS; go_simp; try with_reducible rfl)); (try simp only [Act.put, List.getElem_toArray, List.getElem_cons_zero, List.getElem_cons_succ, List.setIfInBounds_toArray, List.set_cons_zero, List.set_cons_succ]); (refine wpAnyH_take (i := 7) (v := ?_) rfl (by kernel_rfl) (by kernel_rfl) (by kernel_rfl) (fun _ _ _ h => h) (Or.inl ⟨by rfl, ?ht_7⟩) HS ?_); (case ht_7 => (intro wt hS; go_simp; try with_reducible rfl)); (try simp only [Act.put, List.getElem_toArray, List.getElem_cons_zero, List.getElem_cons_succ, List.setIfInBounds_toArray, List.set_cons_zero, List.set_cons_succ]); (refine wpAnyH_take (i := 8) (v := ?_) rfl (by kernel_rfl) (by kernel_rfl) (by kernel_rfl) (fun _ _ _ h => h) (Or.inl ⟨by rfl, ?ht_8⟩) HS ?_); (case ht_8 => (intro wt hS; go_simp; try with_reducible rfl)); (try simp only [Act.put, List.getElem_toArray, List.getElem_cons_zero, List.getElem_cons_succ, List.setIfInBounds_toArray, List.set_cons_zero, List.set_cons_succ]); (refine wpAnyH_take (i := 9) (v := ?_) rfl (by kernel_rfl) (by kernel_rfl) (by kernel_rfl) (fun _ _ _ h => h) (Or.inl ⟨by rfl, ?ht_9⟩) HS ?_); (case ht_9 => (intro wt hS; go_simp; try with_reducible rfl)); (try simp only [Act.put, List.getElem_toArray, List.getElem_cons_zero, List.getElem_cons_succ, List.setIfInBounds_toArray, List.set_cons_zero, List.set_cons_succ])
                    (refine wpAnyH_take (i := 10) (v := .int .u32 aa) rfl (by kernel_rfl) (by kernel_rfl) (by kernel_rfl) (fun _ _ _ h => h) (Or.inl ⟨by rfl, ?ht_10⟩) HS ?_); (case ht_10 => (intro wt hS; have cg := cellF hS; go_simp; try with_reducible rfl)); (try simp only [Act.put, List.getElem_toArray, List.getElem_cons_zero, List.getElem_cons_succ, List.setIfInBounds_toArray, List.set_cons_zero, List.set_cons_succ])
                    (refine wpAnyH_take (i := 11) (v := ?_) rfl (by kernel_rfl) (by kernel_rfl) (by kernel_rfl) (fun _ _ _ h => h) (Or.inl ⟨by rfl, ?ht_11⟩) HS ?_); (case ht_11 => (intro wt hS; go_simp; try with_reducible rfl)); (try simp only [Act.put, List.getElem_toArray, List.getElem_cons_zero, List.getElem_cons_succ, List.setIfInBounds_toArray, List.set_cons_zero, List.set_cons_succ])
                    (refine wpAnyH_take (i := 12) (v := .agg (fA nn aa le)) rfl (by kernel_rfl) (by kernel_rfl) (by kernel_rfl) (fun _ _ _ h => h) (Or.inl ⟨by rfl, ?ht_12⟩) HS ?_); (case ht_12 => (intro wt hS; exact exec_build 36 _ rfl (fA nn aa le) (by kernel_rfl))); (try simp only [Act.put, List.getElem_toArray, List.getElem_cons_zero, List.getElem_cons_succ, List.setIfInBounds_toArray, List.set_cons_zero, List.set_cons_succ])
                    obtain ⟨ip, zp, ip1, ip2, ip3, ip4, ip5⟩ := info_fill
                    (refine wpAnyH_ready (rs := [13]) (by kernel_rfl) (by decide) ?_); (refine AllReadyH.cons rfl (fun K' hK => ?_) AllReadyH.nil); (rw [if_pos (by rfl)])
                    refine op_slice1 24 36 _ rfl (fA nn aa le) 3 rfl (fA_size _ _ _) ip zp Try.underlying24 ip1 ip2 ip3 ip5 (by omega) (by omega) (hK.out _ _ (heap_up HS) (fun HS => ?_))
                    clear hK K'
                    (try simp only [Act.put, List.getElem_toArray, List.getElem_cons_zero, List.getElem_cons_succ, List.setIfInBounds_toArray, List.set_cons_zero, List.set_cons_succ])
                    (refine wpAnyH_ready (rs := [14]) (by kernel_rfl) (by decide) ?_); (refine AllReadyH.cons rfl (fun K' hK => ?_) AllReadyH.nil); (rw [if_pos (by rfl)])
                    refine op_append_row1_at _ _ rfl Try.underlying24 info_fill (by omega) (fA_size nn aa le) (fA_all _ _ _) (w5.heap.size + 1) _ r _ rfl (HOY.out.alloc _) wc.heap.size rfl (heap_alloc_new _ _) (by omega) (by simp; omega) (fun v7 w7 ho7 hg7 hat7 => ?_)
                    refine hK.out _ _ ((hg7.block g (Array.getElem?_eq_some_iff.1 HS).1 (fun e => by have := (HOY.out.lt _ e.symm).1; have := (Array.getElem?_eq_some_iff.1 HG.out).1; have := HB.out.size; omega)).trans HS) (fun HS => ?_)
                    clear hK K'
                    (try simp only [Act.put, List.getElem_toArray, List.getElem_cons_zero, List.getElem_cons_succ, List.setIfInBounds_toArray, List.set_cons_zero, List.set_cons_succ])
                    (refine wpAnyH_take (i := 15) (v := ?_) rfl (by kernel_rfl) (by kernel_rfl) (by kernel_rfl) (fun _ _ _ h => h) (Or.inl ⟨by rfl, ?ht_15⟩) HS ?_); (case ht_15 => (intro wt hS; go_simp; try with_reducible rfl)); (try simp only [Act.put, List.getElem_toArray, List.getElem_cons_zero, List.getElem_cons_succ, List.setIfInBounds_toArray, List.set_cons_zero, List.set_cons_succ])
                    refine wpAnyH_done (by kernel_rfl) ?_ _
                    (try go_simp)
                    have HD7 := Lib.hid (HDY.out.below (((Below.refl (w5.heap.size + 1) wc).alloc hwcz (Obj.cells (fA nn aa le) 36)).grown hg7 (by simp; omega) (fun j e => by have := (HOY.out.lt _ e).1; omega)))
                    have HO7 := Lib.hid ho7
                    clear hg7 hat7 ho7
                    go_wp2
                    go_roundg (m - (r + 1))
                    case measure => omega
                    case rel => exact ⟨r + 1, by omega, rfl, by first | (rw [HRN.out]; done) | (rw [HRN.out]; simp; done), HD7.out, by rw [HFN.out]; exact HO7.out⟩
                  · have hgg : gv Q (vS L d) r = vv := by rw [← HRG.out]; omega
                    rw [hgg] at HFN HRN
                    go_upto_region 41 with fail
                    clear hcg cA fA' lA
                    obtain ⟨w6, hw6⟩ : ∃ w6, w6 = wr.setCell ⟨w5.heap.size, x, none⟩ (.bool true) := ⟨_, rfl⟩
                    rw [← hw6] at HDX HOX HGX2 ⊢
                    clear hw6
                    refine wp_region_held (S := fun wt => wt.heap[g]? = some (.cells B tt fr)) (by kernel_rfl) ?_
                    change wpAnyH _ _ _ _ _ _ _ _ (World.drew _)
                    obtain ⟨wc, hwc⟩ : ∃ wc, wc = World.drew w6 := ⟨_, rfl⟩
                    have HS : wc.heap[g]? = some (.cells B tt fr) := by rw [hwc]; exact HGX2.out
                    have HDY := Lib.hid (show Done w.heap.size w5 wc w5.heap.size q t (r + 1) from by rw [hwc]; exact HDX.out.below (Below.drew (Below.refl _ _)))
                    have HOY := Lib.hid (show wc.ownsRow (w5.heap.size + 1) 36 3 u16 r (flat (fillA Q L d) r) from by rw [hwc]; exact HOX.out)
                    rw [← hwc]
                    clear hwc HDX HOX HGX2
                    have hwcz : w5.heap.size + 1 ≤ wc.heap.size := by obtain ⟨A9, h9, _⟩ := HDY.out.row; exact (Array.getElem?_eq_some_iff.1 h9).1
                    (refine wpAnyH_take (i := 0) (v := ?_) rfl (by kernel_rfl) (by kernel_rfl) (by kernel_rfl) (fun _ _ _ h => h) (Or.inl ⟨by rfl, ?ht_0⟩) HS ?_); (case ht_0 => (intro wt hS; go_simp; try with_reducible rfl)); (try simp only [Act.put, List.getElem_toArray, List.getElem_cons_zero, List.getElem_cons_succ, List.setIfInBounds_toArray, List.set_cons_zero, List.set_cons_succ]); (refine wpAnyH_take (i := 1) (v := ?_) rfl (by kernel_rfl) (by kernel_rfl) (by kernel_rfl) (fun _ _ _ h => h) (Or.inl ⟨by rfl, ?ht_1⟩) HS ?_); (case ht_1 => (intro wt hS; go_simp; try with_reducible rfl)); (try simp only [Act.put, List.getElem_toArray, List.getElem_cons_zero, List.getElem_cons_succ, List.setIfInBounds_toArray, List.set_cons_zero, List.set_cons_succ]); (refine wpAnyH_take (i := 2) (v := ?_) rfl (by kernel_rfl) (by kernel_rfl) (by kernel_rfl) (fun _ _ _ h => h) (Or.inl ⟨by rfl, ?ht_2⟩) HS ?_); (case ht_2 => (intro wt hS; go_simp; try with_reducible rfl)); (try simp only [Act.put, List.getElem_toArray, List.getElem_cons_zero, List.getElem_cons_succ, List.setIfInBounds_toArray, List.set_cons_zero, List.set_cons_succ]); (refine wpAnyH_take (i := 3) (v := ?_) rfl (by kernel_rfl) (by kernel_rfl) (by kernel_rfl) (fun _ _ _ h => h) (Or.inl ⟨by rfl, ?ht_3⟩) HS ?_); (case ht_3 => (intro wt hS; go_simp; try with_reducible rfl)); (try simp only [Act.put, List.getElem_toArray, List.getElem_cons_zero, List.getElem_cons_succ, List.setIfInBounds_toArray, List.set_cons_zero, List.set_cons_succ]); (refine wpAnyH_take (i := 4) (v := ?_) rfl (by kernel_rfl) (by kernel_rfl) (by kernel_rfl) (fun _ _ _ h => h) (Or.inl ⟨by rfl, ?ht_4⟩) HS ?_); (case ht_4 => (intro wt hS; go_simp; try with_reducible rfl)); (try simp only [Act.put, List.getElem_toArray, List.getElem_cons_zero, List.getElem_cons_succ, List.setIfInBounds_toArray, List.set_cons_zero, List.set_cons_succ])
                    (refine wpAnyH_take (i := 5) (v := .int .u64 nn) rfl (by kernel_rfl) (by kernel_rfl) (by kernel_rfl) (fun _ _ _ h => h) (Or.inl ⟨by rfl, ?ht_5⟩) HS ?_); (case ht_5 => (intro wt hS; have cg := cellF hS; go_simp; try with_reducible rfl)); (try simp only [Act.put, List.getElem_toArray, List.getElem_cons_zero, List.getElem_cons_succ, List.setIfInBounds_toArray, List.set_cons_zero, List.set_cons_succ])
                    (refine wpAnyH_take (i := 6) (v := ?_) rfl (by kernel_rfl) (by kernel_rfl) (by kernel_rfl) (fun _ _ _ h => h) (Or.inl ⟨by rfl, ?ht_6⟩) HS ?_); (case ht_6 => (intro wt hS; go_simp; try with_reducible rfl)); (try simp only [Act.put, List.getElem_toArray, List.getElem_cons_zero, List.getElem_cons_succ, List.setIfInBounds_toArray, List.set_cons_zero, List.set_cons_succ]); (refine wpAnyH_take (i := 7) (v := ?_) rfl (by kernel_rfl) (by kernel_rfl) (by kernel_rfl) (fun _ _ _ h => h) (Or.inl ⟨by rfl, ?ht_7⟩) HS ?_); (case ht_7 => (intro wt hS; go_simp; try with_reducible rfl)); (try simp only [Act.put, List.getElem_toArray, List.getElem_cons_zero, List.getElem_cons_succ, List.setIfInBounds_toArray, List.set_cons_zero, List.set_cons_succ]); (refine wpAnyH_take (i := 8) (v := ?_) rfl (by kernel_rfl) (by kernel_rfl) (by kernel_rfl) (fun _ _ _ h => h) (Or.inl ⟨by rfl, ?ht_8⟩) HS ?_); (case ht_8 => (intro wt hS; go_simp; try with_reducible rfl)); (try simp only [Act.put, List.getElem_toArray, List.getElem_cons_zero, List.getElem_cons_succ, List.setIfInBounds_toArray, List.set_cons_zero, List.set_cons_succ]); (refine wpAnyH_take (i := 9) (v := ?_) rfl (by kernel_rfl) (by kernel_rfl) (by kernel_rfl) (fun _ _ _ h => h) (Or.inl ⟨by rfl, ?ht_9⟩) HS ?_); (case ht_9 => (intro wt hS; go_simp; try with_reducible rfl)); (try simp only [Act.put, List.getElem_toArray, List.getElem_cons_zero, List.getElem_cons_succ, List.setIfInBounds_toArray, List.set_cons_zero, List.set_cons_succ])
                    (refine wpAnyH_take (i := 10) (v := .int .u32 aa) rfl (by kernel_rfl) (by kernel_rfl) (by kernel_rfl) (fun _ _ _ h => h) (Or.inl ⟨by rfl, ?ht_10⟩) HS ?_); (case ht_10 => (intro wt hS; have cg := cellF hS; go_simp; try with_reducible rfl)); (try simp only [Act.put, List.getElem_toArray, List.getElem_cons_zero, List.getElem_cons_succ, List.setIfInBounds_toArray, List.set_cons_zero, List.set_cons_succ])
                    (refine wpAnyH_take (i := 11) (v := ?_) rfl (by kernel_rfl) (by kernel_rfl) (by kernel_rfl) (fun _ _ _ h => h) (Or.inl ⟨by rfl, ?ht_11⟩) HS ?_); (case ht_11 => (intro wt hS; go_simp; try with_reducible rfl)); (try simp only [Act.put, List.getElem_toArray, List.getElem_cons_zero, List.getElem_cons_succ, List.setIfInBounds_toArray, List.set_cons_zero, List.set_cons_succ])
                    (refine wpAnyH_take (i := 12) (v := .agg (fA nn aa vv)) rfl (by kernel_rfl) (by kernel_rfl) (by kernel_rfl) (fun _ _ _ h => h) (Or.inl ⟨by rfl, ?ht_12⟩) HS ?_); (case ht_12 => (intro wt hS; exact exec_build 36 _ rfl (fA nn aa vv) (by kernel_rfl))); (try simp only [Act.put, List.getElem_toArray, List.getElem_cons_zero, List.getElem_cons_succ, List.setIfInBounds_toArray, List.set_cons_zero, List.set_cons_succ])
                    obtain ⟨ip, zp, ip1, ip2, ip3, ip4, ip5⟩ := info_fill
                    (refine wpAnyH_ready (rs := [13]) (by kernel_rfl) (by decide) ?_); (refine AllReadyH.cons rfl (fun K' hK => ?_) AllReadyH.nil); (rw [if_pos (by rfl)])
                    refine op_slice1 24 36 _ rfl (fA nn aa vv) 3 rfl (fA_size _ _ _) ip zp Try.underlying24 ip1 ip2 ip3 ip5 (by omega) (by omega) (hK.out _ _ (heap_up HS) (fun HS => ?_))
                    clear hK K'
                    (try simp only [Act.put, List.getElem_toArray, List.getElem_cons_zero, List.getElem_cons_succ, List.setIfInBounds_toArray, List.set_cons_zero, List.set_cons_succ])
                    (refine wpAnyH_ready (rs := [14]) (by kernel_rfl) (by decide) ?_); (refine AllReadyH.cons rfl (fun K' hK => ?_) AllReadyH.nil); (rw [if_pos (by rfl)])
                    refine op_append_row1_at _ _ rfl Try.underlying24 info_fill (by omega) (fA_size nn aa vv) (fA_all _ _ _) (w5.heap.size + 1) _ r _ rfl (HOY.out.alloc _) wc.heap.size rfl (heap_alloc_new _ _) (by omega) (by simp; omega) (fun v7 w7 ho7 hg7 hat7 => ?_)
                    refine hK.out _ _ ((hg7.block g (Array.getElem?_eq_some_iff.1 HS).1 (fun e => by have := (HOY.out.lt _ e.symm).1; have := (Array.getElem?_eq_some_iff.1 HG.out).1; have := HB.out.size; omega)).trans HS) (fun HS => ?_)
                    clear hK K'
                    (try simp only [Act.put, List.getElem_toArray, List.getElem_cons_zero, List.getElem_cons_succ, List.setIfInBounds_toArray, List.set_cons_zero, List.set_cons_succ])
                    (refine wpAnyH_take (i := 15) (v := ?_) rfl (by kernel_rfl) (by kernel_rfl) (by kernel_rfl) (fun _ _ _ h => h) (Or.inl ⟨by rfl, ?ht_15⟩) HS ?_); (case ht_15 => (intro wt hS; go_simp; try with_reducible rfl)); (try simp only [Act.put, List.getElem_toArray, List.getElem_cons_zero, List.getElem_cons_succ, List.setIfInBounds_toArray, List.set_cons_zero, List.set_cons_succ])
                    refine wpAnyH_done (by kernel_rfl) ?_ _
                    (try go_simp)
                    have HD7 := Lib.hid (HDY.out.below (((Below.refl (w5.heap.size + 1) wc).alloc hwcz (Obj.cells (fA nn aa vv) 36)).grown hg7 (by simp; omega) (fun j e => by have := (HOY.out.lt _ e).1; omega)))
                    have HO7 := Lib.hid ho7
                    clear hg7 hat7 ho7
                    go_wp2
                    go_roundg (m - (r + 1))
                    case measure => omega
                    case rel => exact ⟨r + 1, by omega, rfl, by first | (rw [HRN.out]; done) | (rw [HRN.out]; simp; done), HD7.out, by rw [HFN.out]; exact HO7.out⟩
            · obtain rfl : r = m := by omega
              have hl0 : ¬ 0 < rest8 Q k L d r := fun h => by have := rp2.1 h; omega
              generalize rest8 Q k L d r = le at *
              go_wp2
              go_ret3
              exact ⟨.inr ⟨HE.out, u16, by rw [← HM.out, ← HPV.out]; rfl, by rw [← HM.out]; exact own_weak HO.out (by have := HDN.out.ge; omega)⟩, HB.out.trans (HDN.out.be.mono HB.out.size)⟩
end Go.Proofs.Ytoglcgijgckdaaa
