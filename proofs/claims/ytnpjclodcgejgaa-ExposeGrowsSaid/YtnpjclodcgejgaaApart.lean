/- The statement ExposeApart returns true, whatever comes in. No condition but that the numbers fit their kinds. -/
import Derived.Test.YtnpjclodcgejgaaKnown11
namespace Go.Proofs.Ytnpjclodcgejgaa
set_option linter.unusedVariables false
set_option linter.unusedSimpArgs false
open Go.RowKit

theorem at_ext29 {A B : Array Value} {i j : Nat} (h : A.extract i (i + 29) = B) (hs : i + 29 ≤ A.size) (hj : j < 29) : A[i + j]? = B[j]? := by
  subst h
  rw [Array.getElem?_extract, if_pos (by omega)]
set_option maxRecDepth 100000 in
set_option maxHeartbeats 1000000 in
theorem large_any (S : Nat → Array Value) (O : Nat → Nat → Array Value) (m : Nat → Nat) (a : Option Addr) (n cap : Nat) (w : World) (hA : Stks w a n S O m) (hn : n ≤ 9223372036854775807) :
    Calls Try.prog 12 #[.slice a n cap] w fun e w' => (∃ b : Bool, e = .returned (.bool b) ∧ (b = false → n ≤ 40 ∧ ∀ i, i < n → m i ≤ 300)) ∧ w = w' := by
  have HA := Lib.hid hA
  clear hA
  by_cases h40 : 40 < n
  · go_enter Try.func12, Try.ntmps12
    go_wp2
    go_ret
    exact ⟨⟨_, rfl, fun h => by cases h⟩, rfl⟩
  · go_enter Try.func12, Try.ntmps12
    go_wp2
    go_loopg [9] n (fun gh i wr => ∃ k : Nat, k ≤ n ∧ gh = n - k ∧ i = .int .i64 k ∧ (∀ i, i < k → m i ≤ 300) ∧ w = wr)
    case atStart => exact ⟨0, by omega, by omega, rfl, fun i hi => by omega, rfl⟩
    case round =>
      obtain ⟨k, hk, rfl, rfl, hall, rfl⟩ := hrel
      have HALL := Lib.hid hall
      clear hall
      by_cases hlt : k < n
      · obtain ⟨g, off, A, t, fr, rfl, hgA, hszA, hexA⟩ := HA.out.at_ k hlt
        obtain ⟨ad, c, h28, _, hmc, hc, _⟩ := HA.out.or k hlt
        have h28' : A[off + k * 29 + 28]? = some (.slice ad (m k) c) := by rw [at_ext29 hexA hszA (by omega)]; exact h28
        have hcA := cellF hgA
        have HZ := Lib.hid hszA
        clear hexA hszA h28
        have HM := Lib.hid (show m k ≤ 300 → ∀ i, i < k + 1 → m i ≤ 300 from fun h i hi => by
          by_cases e : i = k
          · rw [e]; exact h
          · exact HALL.out i (by omega))
        generalize m k = mk at *
        by_cases h300 : 300 < mk
        · go_wp2
          go_ret
          exact ⟨⟨_, rfl, fun h => by cases h⟩, rfl⟩
        · go_wp2
          go_roundg (n - (k + 1))
          case measure => omega
          case rel => exact ⟨k + 1, by omega, rfl, by go_num, HM.out (by omega), rfl⟩
      · obtain rfl : k = n := by omega
        go_wp2
        go_ret
        exact ⟨⟨_, rfl, fun _ => ⟨by omega, HALL.out⟩⟩, rfl⟩

def sUp (S : Nat → Array Value) : Nat → Int
  | 0 => 0
  | k + 1 => sUp S k + max 0 (ku (S k))
theorem sUp_bd {S : Nat → Array Value} {O : Nat → Nat → Array Value} {m : Nat → Nat} (hS : ∀ i, IsStk (S i)) : ∀ n, okKs S O m n = true → 0 ≤ sUp S n ∧ sUp S n ≤ n * 1100000000000000 ∧ sU S n ≤ sUp S n
  | 0, _ => by simp [sUp, sU]
  | n + 1, h => by
    rw [okKs_s, Bool.and_eq_true] at h
    have ih := sUp_bd hS n h.1
    have := (okK_facts (hS n) h.2).u
    simp only [sUp, sU]
    omega
theorem one_need {S : Nat → Array Value} {O : Nat → Nat → Array Value} {m : Nat → Nat} {k : Nat} (h : okK (S k) (O k) (m k) = true) :
    nE (fun _ => S k) (fun _ => O k) (fun _ => m k) 1 = 0 ∧ need (fun _ => S k) (fun _ => O k) (fun _ => m k) 1 = r3 (sumTo (lg (fun _ => S k)) 1 9) (kw (S k) (O k) (m k)) (max 0 (ku (S k))) := by
  have h1 : nE (fun _ => S k) (fun _ => O k) (fun _ => m k) 1 = 0 := by
    unfold nE
    rw [if_neg (by omega), okKs_s, h]
    rfl
  refine ⟨h1, ?_⟩
  rw [need_ok h1]
  simp only [sW, sU, Int.zero_add]
  rfl
theorem Stks.one {w : World} {g off n : Nat} {S : Nat → Array Value} {O : Nat → Nat → Array Value} {m : Nat → Nat} (h : Stks w (some ⟨g, off, none⟩) n S O m) {k : Nat} (hk : k < n) :
    Stks w (some ⟨g, off + k * 29, none⟩) 1 (fun _ => S k) (fun _ => O k) (fun _ => m k) where
  at_ := fun i hi => by
    obtain rfl : i = 0 := by omega
    obtain ⟨g', off', A, t, fr, ha, h1, h2, h3⟩ := h.at_ k hk
    cases ha
    exact ⟨g, off + k * 29, A, t, fr, rfl, h1, by omega, by simpa using h3⟩
  or := fun i _ => h.or k hk

set_option maxRecDepth 100000 in
set_option maxHeartbeats 1000000 in
theorem apart_walk (a : Option Addr) (n cap : Nat) (S : Nat → Array Value) (O : Nat → Nat → Array Value) (m : Nat → Nat) (W : World) (hS : ∀ i, IsStk (S i)) (hO : ∀ i k, IsOrd (O i k)) (hA : Stks W a n S O m) (hn : n ≤ cap) (hc : cap ≤ 9223372036854775807) (hz : a = none → n = 0 ∧ cap = 0) :
    Calls Try.prog 7 #[.slice a n cap] W fun e W' => e = .returned (.bool true) ∧ Below W.heap.size W W' := by
  have cl := large_any S O m a n cap W hA (by omega)
  have cm := need_any S O m a n cap W hS hO hA (by omega)
  go_enter Try.func7, Try.ntmps7
  go_wp2_with fail
  refine cl.mono ?_
  clear cl
  rintro e w' ⟨⟨b, rfl, hbf⟩, rfl⟩
  cases b
  · clear hbf
    go_wp2_with fail
    refine cm.mono ?_
    clear cm
    rintro e w1 ⟨rfl, hb1⟩
    by_cases he : nE S O m n = 0
    · obtain ⟨h16, hok, hon⟩ := nE_zero he
      rw [he, need_ok he]
      have HS := Lib.hid hS
      have HO := Lib.hid hO
      have HA := Lib.hid hA
      have HOK := Lib.hid hok
      clear hS hO hA hok hon he
      have hbd := s_bd HS.out n HOK.out
      have hub := sUp_bd HS.out n HOK.out
      have HUB := Lib.hid (show max 0 (sU S n) ≤ sUp S n by omega)
      obtain ⟨R, hR⟩ : ∃ R, R = #[Value.int .i64 (sumTo (lg S) n 9), .int .i64 (sW S O m n), .int .i64 (max 0 (sU S n))] := ⟨_, rfl⟩
      have n1 : R[1]? = some (.int .i64 (sW S O m n)) := by rw [hR]; rfl
      have n2 : R[2]? = some (.int .i64 (max 0 (sU S n))) := by rw [hR]; rfl
      have HR3 := Lib.hid (show R.size = 3 by rw [hR]; rfl)
      have HRa := Lib.hid (show R.all (·.oneCell') = true by rw [hR]; exact r3_all _ _ _)
      rw [← hR]
      clear hR hbd hub
      generalize hu : max 0 (sU S n) = un at *
      clear hu
      go_wp2_with (first | ((with_reducible refine at_alloc 35 ?_); refine wpList_alloc_named rfl 35 rfl (r3 0 0 0) (by kernel_rfl) ?_) | ((with_reducible refine at_store 35 ?_); refine wpList_store_new rfl 35 _ _ rfl (R) _ _ _ rfl (by simp) rfl (by rw [HR3.out]; kernel_rfl) (by rw [HR3.out]; rfl) (HRa.out) ?_))
      go_loopg [5, 6, 23] n (fun gh x u i wr => ∃ k : Nat, k ≤ n ∧ gh = n - k ∧ i = .int .i64 k ∧ x = .int .i64 (sW S O m k) ∧ u = .int .i64 (sUp S k) ∧ wr.heap[w1.heap.size]? = some (.cells R 35 (0, 0)) ∧ Below W.heap.size W wr)
      case atStart => exact ⟨0, by omega, by omega, rfl, rfl, rfl, heap_alloc_new _ _, below_alloc hb1 _⟩
      case round =>
        obtain ⟨k, hk, rfl, rfl, rfl, rfl, hg, hb⟩ := hrel
        by_cases hlt : k < n
        · obtain ⟨g, off, A, t, fr, rfl, _⟩ := HA.out.at_ k hlt
          have hkk := okKs_at HOK.out hlt
          obtain ⟨o1, o2⟩ := one_need (S := S) (O := O) (m := m) hkk
          have cm := fun w' hb' => need_any (fun _ => S k) (fun _ => O k) (fun _ => m k) (some ⟨g, off + k * 29, none⟩) 1 (cap - k) w' (fun _ => HS.out k) (fun _ => HO.out k) ((HA.out.kept hb').one hlt) (by omega)
          rw [o1, o2] at cm
          have F := okK_facts (HS.out k) hkk
          have hw := F.w
          have hle := F.le
          have hu := F.u
          have hsb := s_bd HS.out k (okKs_mono HOK.out (by omega))
          have hub := sUp_bd HS.out k (okKs_mono HOK.out (by omega))
          have H1 := Lib.hid (show sW S O m (k + 1) = sW S O m k + kw (S k) (O k) (m k) from rfl)
          have H2 := Lib.hid (show sUp S (k + 1) = sUp S k + max 0 (ku (S k)) from rfl)
          have hx0 : 0 ≤ max 0 (ku (S k)) ∧ max 0 (ku (S k)) ≤ 1100000000000000 := by omega
          obtain ⟨R1, hR1⟩ : ∃ R1, R1 = r3 (sumTo (lg (fun _ => S k)) 1 9) (kw (S k) (O k) (m k)) (max 0 (ku (S k))) := ⟨_, rfl⟩
          have m1 : R1[1]? = some (.int .i64 (kw (S k) (O k) (m k))) := by rw [hR1]; rfl
          have m2 : R1[2]? = some (.int .i64 (max 0 (ku (S k)))) := by rw [hR1]; rfl
          have HR13 := Lib.hid (show R1.size = 3 by rw [hR1]; rfl)
          have HR1a := Lib.hid (show R1.all (·.oneCell') = true by rw [hR1]; exact r3_all _ _ _)
          rw [← hR1] at cm
          clear hR1 o1 o2 hkk F
          generalize kw (S k) (O k) (m k) = kv at *
          generalize max 0 (ku (S k)) = uv at *
          generalize sW S O m k = sw at *
          generalize sUp S k = su at *
          have CM := Lib.hid cm
          clear cm
          go_wp2_with fail
          refine (CM.out wr hb).mono ?_
          rintro e w2 ⟨rfl, hb2⟩
          go_wp2_with (first | ((with_reducible refine at_alloc 35 ?_); refine wpList_alloc_named rfl 35 rfl (r3 0 0 0) (by kernel_rfl) ?_) | ((with_reducible refine at_store 35 ?_); refine wpList_store_new rfl 35 _ _ rfl (R1) _ _ _ rfl (by simp) rfl (by rw [HR13.out]; kernel_rfl) (by rw [HR13.out]; rfl) (HR1a.out) ?_))
          go_roundg (n - (k + 1))
          case measure => omega
          case rel => exact ⟨k + 1, by omega, rfl, by go_num, by rw [H1.out], by rw [H2.out], kept (below_new _ _) (kept hb2 hg), below_alloc (below_then hb hb2) _⟩
        · obtain rfl : k = n := by omega
          have hle := HUB.out
          have cA := (cells_of hg).1
          generalize sW S O m k = sw at *
          generalize sUp S k = su at *
          go_wp2_with (first | (go_at_call 13; (with_reducible refine (known11 _).mono ?_); rintro e w5 ⟨rfl, hb5⟩))
          go_ret
          exact ⟨rfl, below_then hb hb5⟩
    · have he' : (nE S O m n == 0) = false := by simpa using he
      have HR3 := Lib.hid (show (need S O m n).size = 3 from rfl)
      have HRa := Lib.hid (show (need S O m n).all (·.oneCell') = true from r3_all _ _ _)
      generalize need S O m n = R at *
      generalize nE S O m n = en at *
      go_wp2_with (first | ((with_reducible refine at_alloc 35 ?_); refine wpList_alloc_named rfl 35 rfl (r3 0 0 0) (by kernel_rfl) ?_) | ((with_reducible refine at_store 35 ?_); refine wpList_store_new rfl 35 _ _ rfl (R) _ _ _ rfl (by simp) rfl (by rw [HR3.out]; kernel_rfl) (by rw [HR3.out]; rfl) (HRa.out) ?_) | (go_at_call 13; (with_reducible refine (known11 _).mono ?_); rintro e w5 ⟨rfl, hb5⟩))
      go_ret
      exact ⟨rfl, below_then (below_alloc hb1 _) hb5⟩
  · go_wp2_with (first | (go_at_call 13; (with_reducible refine (known11 _).mono ?_); rintro e w5 ⟨rfl, hb5⟩))
    go_ret
    exact ⟨rfl, hb5⟩
end Go.Proofs.Ytnpjclodcgejgaa
