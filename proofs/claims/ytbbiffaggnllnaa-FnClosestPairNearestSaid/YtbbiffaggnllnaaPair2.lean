/- The contract of the program's closest pair. -/
import Derived.Test.YtbbiffaggnllnaaPair
import Derived.BigRegion
import Derived.Deep.DeepCutAuto
import Derived.Test.YtbbiffaggnllnaaGet
namespace Go.Proofs.Ytbbiffaggnllnaa
set_option linter.unusedVariables false
open Go Go.RowKit

def cellsI (x : It) (A : Option Addr) (c : Nat) : Array Value := #[.int .i64 x.key, .slice A x.pt.length c, .int .i64 x.tags]
/-- The two variables hold the items p and q of the list. -/
structure Two (w : World) (l : List It) (ga gb : Nat) (x y : It) (wc : World) (Ap : Option Addr) (cp : Nat) (Aq : Option Addr) (cq : Nat) : Prop where
  ba : Blk wc ga 48 #[.int .i64 x.key, .slice Ap x.pt.length cp, .int .i64 x.tags]
  bb : Blk wc gb 48 #[.int .i64 y.key, .slice Aq y.pt.length cq, .int .i64 y.tags]
  ra : RI w w.heap.size Ap x.pt
  rb : RI w w.heap.size Aq y.pt
theorem Two.grow {w : World} {l : List It} {ga gb : Nat} {x y : It} {wc wd : World} {Ap Aq : Option Addr} {cp cq : Nat} (h : Two w l ga gb x y wc Ap cp Aq cq) (g : Grow wc wd) : Two w l ga gb x y wd Ap cp Aq cq :=
  ⟨h.ba.below g h.ba.lt, h.bb.below g h.bb.lt, h.ra, h.rb⟩
theorem Blk.set3 {w : World} {g : Nat} {t : TypeId} {a b c : Value} (h : Blk w g t #[a, b, c]) (x y z : Value) : Blk (((w.setCell ⟨g, 0, none⟩ x).setCell ⟨g, 1, none⟩ y).setCell ⟨g, 2, none⟩ z) g t #[x, y, z] := by
  have := ((h.set_ 0 x).set_ 1 y).set_ 2 z
  simpa using this
theorem Blk.far3 {w : World} {g k : Nat} {t : TypeId} {cs : Array Value} (h : Blk w g t cs) (hk : g ≠ k) (x y z : Value) : Blk (((w.setCell ⟨k, 0, none⟩ x).setCell ⟨k, 1, none⟩ y).setCell ⟨k, 2, none⟩ z) g t cs :=
  ((h.far hk x).far hk y).far hk z
theorem Grow.set3 {w0 w : World} {k : Nat} (h : Grow w0 w) (hk : w0.heap.size ≤ k) (x y z : Value) : Grow w0 (((w.setCell ⟨k, 0, none⟩ x).setCell ⟨k, 1, none⟩ y).setCell ⟨k, 2, none⟩ z) :=
  ((h.setCell (p := ⟨k, 0, none⟩) hk x).setCell (p := ⟨k, 1, none⟩) hk y).setCell (p := ⟨k, 2, none⟩) hk z
set_option maxRecDepth 100000 in
set_option maxHeartbeats 12800000 in
theorem impl_ClosestPair (A : Option Addr) (c : Nat) (l : List It) (kind : Int) (w : World) (h : RS w w.heap.size A l) (hc : l.length ≤ c) (hcm : c ≤ maxLen) :
    Calls Try.prog 50 #[.slice A l.length c, .int .i64 kind] w fun e w' => e = .returned (.tuple #[.int .i64 (pairA l kind), .int .i64 (pairB l kind), .bool (pairOk l kind)]) ∧ Grow w w' := by
  have hl := h.len
  unfold maxLen at hcm
  cases hs : storeB l
  · have HN := Lib.hid (pair_no (pairOk_1 (kind := kind) hs))
    go_enter Try.func50, Try.ntmps50
    go_wp2_with (go_at_call 29; refine (impl_ValidStore _ _ _ _ h).mono ?_; rintro e w1 ⟨he, g1⟩; rw [hs] at he; subst he)
    go_ret3
    obtain ⟨h1, h2, h3⟩ := HN.out
    exact ⟨by rw [h1, h2, h3]; rfl, g1⟩
  · have HS := Lib.hid hs
    have h16 := storeB_len hs
    go_enter Try.func50, Try.ntmps50
    go_wp2_with fail
    refine (impl_ValidStore _ _ _ _ h).mono ?_; rintro e w2 ⟨he, g2⟩; rw [hs] at he; subst he
    clear hs
    cases hk : kindB kind
    · have HN := Lib.hid (pair_no (pairOk_2 (l := l) hk))
      go_wp2_with fail
      refine (impl_isKind _ _).mono ?_; rintro e w' ⟨he, rfl⟩; rw [hk] at he; subst he
      clear hk
      go_wp2_with fail
      go_ret3
      obtain ⟨h1, h2, h3⟩ := HN.out
      exact ⟨by rw [h1, h2, h3]; rfl, g2⟩
    · have HK := Lib.hid hk
      go_wp2_with fail
      refine (impl_isKind _ _).mono ?_; rintro e w' ⟨he, rfl⟩; rw [hk] at he; subst he
      clear hk
      by_cases h2 : l.length < 2
      · have HN := Lib.hid (pair_no (pairOk_3 (kind := kind) h2))
        go_wp2_with fail
        go_ret3
        obtain ⟨h1, h2, h3⟩ := HN.out
        exact ⟨by rw [h1, h2, h3]; rfl, g2⟩
      · have h2' : 2 ≤ l.length := by omega
        have h2i : (2 : Int) ≤ l.length := by omega
        have HOK := Lib.hid (pair_yes (pairOk_4 HS.out HK.out h2'))
        have HV := Lib.hid (fun i (hi : i < l.length) => store_vec HS.out hi)
        obtain ⟨ad, A0, k0, x0, rfl, had, p0, p1, p2, _, _, r0, _, _, hx0⟩ := (h.grow g2).at_ (k := 0) (by omega)
        obtain ⟨ad2, A1, k1, x1, e, _, q0, q1, q2, _, _, r1, _, _, hx1⟩ := (h.grow g2).at_ (k := 1) (by omega)
        injection e with e; subst e
        have z0 : w2.cell? ad = some (.int .i64 x0.key) := p0
        have z1 : w2.cell? ⟨ad.block, ad.off + 1, none⟩ = some (.slice A0 x0.pt.length k0) := p1
        have z2 : w2.cell? ⟨ad.block, ad.off + 2, none⟩ = some (.int .i64 x0.tags) := p2
        have y0 : w2.cell? ⟨ad.block, ad.off + 3, none⟩ = some (.int .i64 x1.key) := q0
        have y1 : w2.cell? ⟨ad.block, ad.off + 4, none⟩ = some (.slice A1 x1.pt.length k1) := q1
        have y2 : w2.cell? ⟨ad.block, ad.off + 5, none⟩ = some (.int .i64 x1.tags) := q2
        have l0 : 0 < l.length := by omega
        have l1 : 1 < l.length := by omega
        clear p0 p1 p2 q0 q1 q2
        go_wp2_with fail
        go_cut [7, 8] (fun a b wc => ∃ ga gb : Nat, a = .pointer (some ⟨ga, 0, none⟩) ∧ b = .pointer (some ⟨gb, 0, none⟩) ∧ ga ≠ gb ∧ w2.heap.size ≤ ga ∧ w2.heap.size ≤ gb ∧ Blk wc ga 48 #[.int .i64 x0.key, .slice A0 x0.pt.length k0, .int .i64 x0.tags] ∧ Blk wc gb 48 #[.int .i64 x1.key, .slice A1 x1.pt.length k1, .int .i64 x1.tags] ∧ Grow w2 wc)
        case first =>
          go_region
          · go_wp2_with fail
            go_meet
            refine ⟨w2.heap.size, w2.heap.size + 1, rfl, rfl, by omega, by omega, by omega, ?_, ?_, ?_⟩
            · exact ((Blk.new w2 _ _).alloc _).drew
            · have := (Blk.new (w2.alloc (.cells #[.int .i64 x0.key, .slice A0 x0.pt.length k0, .int .i64 x0.tags] 48)) 48 #[.int .i64 x1.key, .slice A1 x1.pt.length k1, .int .i64 x1.tags]).drew
              simpa using this
            · exact (((Below.refl _ _).alloc (Nat.le_refl _) _).alloc (by simp) _).drew
          · go_wp2_with fail
            go_meet
            refine ⟨w2.heap.size + 1, w2.heap.size, rfl, rfl, by omega, by omega, by omega, ?_, ?_, ?_⟩
            · have := (Blk.new (w2.alloc (.cells #[.int .i64 x1.key, .slice A1 x1.pt.length k1, .int .i64 x1.tags] 48)) 48 #[.int .i64 x0.key, .slice A0 x0.pt.length k0, .int .i64 x0.tags]).drew
              simpa using this
            · exact ((Blk.new w2 _ _).alloc _).drew
            · exact (((Below.refl _ _).alloc (Nat.le_refl _) _).alloc (by simp) _).drew
        case rest =>
          obtain ⟨ga, gb, rfl, rfl, hne, hga, hgb, ba, bb, gc⟩ := hcut
          clear z0 z1 z2 y0 y1 y2
          have hR := h.grow g2
          have t0 : Two w2 l ga gb x0 x1 wc A0 k0 A1 k1 := ⟨ba, bb, r0, r1⟩
          clear ba bb r0 r1
          go_wp2_with fail
          go_loopw [34] (fun i wr => ∃ (n p q : Nat) (x y : It) (Ap : Option Addr) (cp : Nat) (Aq : Option Addr) (cq : Nat), n ≤ l.length ∧ i = .int .i64 n ∧ (p, q) = cpOut kind l n ∧ p < q ∧ q < l.length ∧ l[p]? = some x ∧ l[q]? = some y ∧ Two w2 l ga gb x y wr Ap cp Aq cq ∧ Grow w2 wr) (fun i _ => l.length - (intOf i).toNat)
          case atStart => exact ⟨0, 0, 1, x0, x1, A0, k0, A1, k1, Nat.zero_le _, rfl, rfl, by omega, by omega, hx0.out, hx1.out, t0, gc⟩
          case round =>
            clear t0 gc
            obtain ⟨n, p, q, xp, xq, Ap, cp, Aq, cq, hn, rfl, hpq, hp, hq, hxp, hxq, ht, gr⟩ := hrel
            have HPQ := Lib.hid hpq
            have HXP := Lib.hid hxp
            have HXQ := Lib.hid hxq
            clear hpq hxp hxq
            by_cases hlt : n < l.length
            · obtain ⟨wz, rfl⟩ : ∃ wz : World, wz = wr := ⟨_, rfl⟩
              have hn1 : n + 1 ≤ l.length := by omega
              have hnc : n + 1 ≤ c := by omega
              obtain ⟨ad', An, cn, xn, e, _, b0, b1, b2, _, _, rn, _, _, hxn⟩ := hR.at_ (k := n) hlt
              injection e with e; subst e
              have hbk : (ad.add (n * 3)).block = ad.block := block_of_add _ _
              have c0 := (gr.cell (p := ad.add (n * 3)) (by rw [hbk]; exact had)).trans b0
              have c1 := (gr.cell (p := ⟨(ad.add (n * 3)).block, (ad.add (n * 3)).off + 1, none⟩) (by show (ad.add (n * 3)).block < _; rw [hbk]; exact had)).trans b1
              have c2 := (gr.cell (p := ⟨(ad.add (n * 3)).block, (ad.add (n * 3)).off + 2, none⟩) (by show (ad.add (n * 3)).block < _; rw [hbk]; exact had)).trans b2
              have hadr := Nat.lt_of_lt_of_le had gr.size
              obtain ⟨wo, hwo⟩ : ∃ wo, wo = wz.alloc (.cells #[.int .i64 xn.key, .slice An xn.pt.length cn, .int .i64 xn.tags] 48) := ⟨_, rfl⟩
              have go : Grow wz wo := by rw [hwo]; exact (Below.refl _ _).alloc (Nat.le_refl _) _
              have kx : Blk wo wz.heap.size 48 #[.int .i64 xn.key, .slice An xn.pt.length cn, .int .i64 xn.tags] := by rw [hwo]; exact Blk.new _ _ _
              have tO := ht.grow go
              have gro := gr.trans go
              have hgx : wz.heap.size ≠ ga ∧ wz.heap.size ≠ gb := by have := ht.ba.lt; have := ht.bb.lt; omega
              have HW := Lib.hid hwo
              clear hwo hbk b0 b1 b2
              by_cases hcn : c = n + 1
              · have hend : l.length = n + 1 := by omega
                have hz : l.length - (n + 1) = 0 := by omega
                have hco : cpOut kind l (n + 1) = cpOut kind l n := by rw [cpOut, hz]; rfl
                have HCO := Lib.hid hco
                have hd0 : ((l.length : Int) - ((n : Int) + 1)) = 0 := by omega
                have hcnI : (c : Int) = (n : Int) + 1 := by omega
                clear hend hco
                go_wp2_with fail
                rw [← HW.out]
                go_loop [44] (fun i => i = .int .i64 0) (fun _ => 0)
                case atStart => rfl
                case round =>
                  subst hrel
                  go_wp2_with fail
                  go_roundw
                  case rel => exact ⟨n + 1, p, q, xp, xq, Ap, cp, Aq, cq, hn1, by go_num, by rw [HCO.out]; exact HPQ.out, hp, hq, HXP.out, HXQ.out, tO, gro⟩
                  case measure => simp [intOf]; omega
              · have hcn2 : n + 1 < c := by omega
                go_wp2_with fail
                obtain ⟨L, hL⟩ : ∃ L, L = l.length - (n + 1) := ⟨_, rfl⟩
                obtain ⟨bd, hbd⟩ : ∃ bd, bd = ad.add ((n + 1) * 3) := ⟨_, rfl⟩
                have hsub : RS w2 w2.heap.size (some bd) (l.drop (n + 1)) := by rw [hbd]; exact hR.cut hn1 rfl
                have hsl : (l.drop (n + 1)).length = L := by rw [List.length_drop, hL]
                rw [← HW.out, ← hL, ← hbd]
                have hL16 : L ≤ 16 := by omega
                have hLn : n + 1 + L = l.length := by omega
                have HL := Lib.hid hL
                have HSL := Lib.hid hsl
                have HLN := Lib.hid hLn
                clear hL hbd hsl hLn HW c0 c1 c2 ht
                go_loopw [44] (fun i wi => ∃ (m p q : Nat) (x y : It) (Ap : Option Addr) (cp : Nat) (Aq : Option Addr) (cq : Nat), m ≤ L ∧ i = .int .i64 m ∧ (p, q) = cpIn kind l n (cpOut kind l n) m ∧ p < q ∧ q < l.length ∧ l[p]? = some x ∧ l[q]? = some y ∧ Two w2 l ga gb x y wi Ap cp Aq cq ∧ Blk wi wz.heap.size 48 #[.int .i64 xn.key, .slice An xn.pt.length cn, .int .i64 xn.tags] ∧ Grow w2 wi) (fun i _ => L - (intOf i).toNat)
                case atStart => exact ⟨0, p, q, xp, xq, Ap, cp, Aq, cq, Nat.zero_le _, rfl, HPQ.out, hp, hq, HXP.out, HXQ.out, tO, kx, gro⟩
                case round =>
                  clear tO kx HXP HXQ
                  obtain ⟨m, p, q, xp, xq, Ap, cp, Aq, cq, hm, rfl, hpq, hp, hq, hxp, hxq, ht, kx, gi⟩ := hrel
                  have HPQ2 := Lib.hid hpq
                  have HXP := Lib.hid hxp
                  have HXQ := Lib.hid hxq
                  clear hpq hxp hxq
                  by_cases hml : m < L
                  · have hm1 : m + 1 ≤ L := by omega
                    obtain ⟨bd', Ay, cy, y, e, hbd, b0, b1, b2, _, _, ry, _, _, hy⟩ := hsub.at_ (k := m) (by rw [HSL.out]; exact hml)
                    injection e with e; subst e
                    have hyl : l[n + 1 + m]? = some y := by have := hy.out; rwa [List.getElem?_drop] at this
                    have hbk : (bd.add (m * 3)).block = bd.block := block_of_add _ _
                    have c0 := (gi.cell (p := bd.add (m * 3)) (by rw [hbk]; exact hbd)).trans b0
                    have c1 := (gi.cell (p := ⟨(bd.add (m * 3)).block, (bd.add (m * 3)).off + 1, none⟩) (by show (bd.add (m * 3)).block < _; rw [hbk]; exact hbd)).trans b1
                    have c2 := (gi.cell (p := ⟨(bd.add (m * 3)).block, (bd.add (m * 3)).off + 2, none⟩) (by show (bd.add (m * 3)).block < _; rw [hbk]; exact hbd)).trans b2
                    obtain ⟨wq, hwq⟩ : ∃ wq, wq = wr.alloc (.cells #[.int .i64 y.key, .slice Ay y.pt.length cy, .int .i64 y.tags] 48) := ⟨_, rfl⟩
                    have gq : Grow wr wq := by rw [hwq]; exact (Below.refl _ _).alloc (Nat.le_refl _) _
                    have ky : Blk wq wr.heap.size 48 #[.int .i64 y.key, .slice Ay y.pt.length cy, .int .i64 y.tags] := by rw [hwq]; exact Blk.new _ _ _
                    have tq := ht.grow gq
                    have kq := kx.below gq kx.lt
                    have giq := gi.trans gq
                    have HWQ := Lib.hid hwq
                    have HYL := Lib.hid hyl
                    have hy1 : wr.heap.size ≠ ga := by have := ht.ba.lt; omega
                    have hy2 : wr.heap.size ≠ gb := by have := ht.bb.lt; omega
                    clear hwq hbk b0 b1 b2 hyl hy
                    have vx : vecB xn.pt 4 = true := by have := HV.out n hlt; rwa [itI_of hxn.out] at this
                    have vy : vecB y.pt 4 = true := by have := HV.out (n + 1 + m) (by have := HLN.out; omega); rwa [itI_of HYL.out] at this
                    have vu : vecB xp.pt 4 = true := by have := HV.out p (by omega); rwa [itI_of HXP.out] at this
                    have vv : vecB xq.pt 4 = true := by have := HV.out q hq; rwa [itI_of HXQ.out] at this
                    have hd1 := dAt_of (kind := kind) hxn.out HYL.out
                    have hd2 := dAt_of (kind := kind) HXP.out HXQ.out
                    have HC1 := fun s : From wq => From.call_drew (impl_distance kind An Ay xn.pt y.pt cn cy s.w (rn.grow (giq.trans s.g)) (ry.grow (giq.trans s.g)) vx vy)
                    have HC2 := fun s : From wq => From.call_drew (impl_distance kind Ap Aq xp.pt xq.pt cp cq s.w (ht.ra.grow (giq.trans s.g)) (ht.rb.grow (giq.trans s.g)) vu vv)
                    rw [← hd1] at HC1
                    rw [← hd2] at HC2
                    have e1 : ∀ s : From wq, s.w.cell? ⟨wz.heap.size, 1, none⟩ = some (.slice An xn.pt.length cn) := fun s => (kq.below s.g kq.lt).cell 1
                    have e2 : ∀ s : From wq, s.w.cell? ⟨wr.heap.size, 1, none⟩ = some (.slice Ay y.pt.length cy) := fun s => (ky.below s.g ky.lt).cell 1
                    have e3 : ∀ s : From wq, s.w.cell? ⟨ga, 1, none⟩ = some (.slice Ap xp.pt.length cp) := fun s => ((tq.grow s.g).ba).cell 1
                    have e4 : ∀ s : From wq, s.w.cell? ⟨gb, 1, none⟩ = some (.slice Aq xq.pt.length cq) := fun s => ((tq.grow s.g).bb).cell 1
                    clear hd1 hd2 vx vy vu vv
                    by_cases hlt2 : dAt kind l n (n + 1 + m) < dAt kind l p q
                    · have HST := Lib.hid (cpStep_yes (st := (p, q)) hlt2)
                      go_wp2_with fail
                      rw [← HWQ.out]
                      refine wp_region_from (by kernel_rfl) (by kernel_rfl) ?_
                      repeat (go_big_quiet_step (first | with_reducible exact HC1 _ | with_reducible exact HC2 _))
                      refine wpQuiet_nil ?_
                      intro w3 g3
                      have t3 := tq.grow g3
                      have k3 := kq.below g3 kq.lt
                      have y3 := ky.below g3 ky.lt
                      have gi3 := giq.trans g3
                      obtain ⟨x0', x1', x2', _, _, _⟩ := cells3 k3 (Grow.refl _)
                      obtain ⟨y0', y1', y2', _, _, _⟩ := cells3 y3 (Grow.refl _)
                      obtain ⟨a0', a1', a2', f0, f1, f2⟩ := cells3 t3.ba (Grow.refl _)
                      obtain ⟨b0', b1', b2', f3, f4, f5⟩ := cells3 t3.bb (Grow.refl _)
                      clear HC1 HC2 e1 e2 e3 e4 c0 c1 c2
                      go_wp2_with fail
                      go_region
                      have hml2 : n + 1 + m < l.length := by have := HLN.out; omega
                      have B1 := ((t3.ba.set3 (.int .i64 xn.key) (.slice An xn.pt.length cn) (.int .i64 xn.tags)).far3 hne (.int .i64 y.key) (.slice Ay y.pt.length cy) (.int .i64 y.tags)).drew
                      have B2 := ((t3.bb.far3 (fun e => hne e.symm) (.int .i64 xn.key) (.slice An xn.pt.length cn) (.int .i64 xn.tags)).set3 (.int .i64 y.key) (.slice Ay y.pt.length cy) (.int .i64 y.tags)).drew
                      have B3 := ((k3.far3 hgx.1 (.int .i64 xn.key) (.slice An xn.pt.length cn) (.int .i64 xn.tags)).far3 hgx.2 (.int .i64 y.key) (.slice Ay y.pt.length cy) (.int .i64 y.tags)).drew
                      have B4 := ((gi3.set3 hga (.int .i64 xn.key) (.slice An xn.pt.length cn) (.int .i64 xn.tags)).set3 hgb (.int .i64 y.key) (.slice Ay y.pt.length cy) (.int .i64 y.tags)).trans (Grow.drew _)
                      clear x0' x1' x2' y0' y1' y2' a0' a1' a2' b0' b1' b2' f0 f1 f2 f3 f4 f5 t3 k3 y3
                      go_wp2_with fail
                      go_roundw
                      case rel => exact ⟨m + 1, n, n + 1 + m, xn, y, An, cn, Ay, cy, hm1, by go_num, by rw [cpIn, ← HPQ2.out, HST.out], by omega, hml2, hxn.out, HYL.out, ⟨B1, B2, rn, ry⟩, B3, B4⟩
                      case measure => simp [intOf]; omega
                    · have HST := Lib.hid (cpStep_no (st := (p, q)) hlt2)
                      go_wp2_with fail
                      rw [← HWQ.out]
                      refine wp_region_from (by kernel_rfl) (by kernel_rfl) ?_
                      repeat (go_big_quiet_step (first | with_reducible exact HC1 _ | with_reducible exact HC2 _))
                      refine wpQuiet_nil ?_
                      intro w3 g3
                      go_wp2_with fail
                      go_roundw
                      case rel => exact ⟨m + 1, p, q, xp, xq, Ap, cp, Aq, cq, hm1, by go_num, by rw [cpIn, ← HPQ2.out, HST.out], hp, hq, HXP.out, HXQ.out, tq.grow g3, kq.below g3 kq.lt, giq.trans g3⟩
                      case measure => simp [intOf]; omega
                  · obtain rfl : m = L := by omega
                    go_wp2_with fail
                    go_roundw
                    case rel => exact ⟨n + 1, p, q, xp, xq, Ap, cp, Aq, cq, hn1, by go_num, by rw [cpOut, ← HL.out]; exact HPQ2.out, hp, hq, HXP.out, HXQ.out, ht, gi⟩
                    case measure => simp [intOf]; omega
            · obtain rfl : n = l.length := by omega
              have e3 : ∀ s : From wr, s.w.cell? ⟨ga, 0, none⟩ = some (.int .i64 xp.key) := fun s => ((ht.grow s.g).ba).cell 0
              have e4 : ∀ s : From wr, s.w.cell? ⟨gb, 0, none⟩ = some (.int .i64 xq.key) := fun s => ((ht.grow s.g).bb).cell 0
              go_wp2_with fail
              refine wp_region_from (by kernel_rfl) (by kernel_rfl) ?_
              repeat (go_big_quiet_step (fail))
              refine wpQuiet_nil ?_
              intro w3 g3
              go_wp2_with fail
              go_ret3
              obtain ⟨h1, h2, h3⟩ := HOK.out
              rw [← HPQ.out] at h2 h3
              exact ⟨by rw [h1, h2, h3, itI_of HXP.out, itI_of HXQ.out]; rfl, g2.trans (gr.trans g3)⟩
end Go.Proofs.Ytbbiffaggnllnaa
