/- Texts of the claim, in build order: P8. No condition. -/
import Derived.Test.YthkbhaaodegocaaZPappusLine9
/- Contracts: the reference's PappusLine, walked. (Printed by genp6.py, a program of this session.) -/
namespace Go.Proofs.Ythkbhaaodegocaa
open Go.RowKit
set_option linter.unusedVariables false
set_option linter.unusedSimpArgs false
set_option maxRecDepth 20000 in
set_option maxHeartbeats 16000000 in
theorem PappusLine_spec_core (n : Nat) (g1 k1 g2 k2 : Nat) (a0 a1 a2 b0 b1 b2 c0 c1 c2 d0 d1 d2 e0 e1 e2 f0 f1 f2 : Int) (w : World) (hp : prB (n : Int) = true) (ha : ptB (n : Int) a0 a1 a2 = true) (hb : ptB (n : Int) b0 b1 b2 = true) (hc : ptB (n : Int) c0 c1 c2 = true) (hd : ptB (n : Int) d0 d1 d2 = true) (he : ptB (n : Int) e0 e1 e2 = true) (hf : ptB (n : Int) f0 f1 f2 = true) (hP1 : PtsAt w g1 0 3 [(a0, a1, a2), (b0, b1, b2), (c0, c1, c2)]) (hP2 : PtsAt w g2 0 3 [(d0, d1, d2), (e0, e1, e2), (f0, f1, f2)]) (h3 : threesR n 3 3 [(a0, a1, a2), (b0, b1, b2), (c0, c1, c2)] [(d0, d1, d2), (e0, e1, e2), (f0, f1, f2)] = 0) (R : Pt × Int) (hR : papC n (a0, a1, a2) (b0, b1, b2) (c0, c1, c2) (d0, d1, d2) (e0, e1, e2) (f0, f1, f2) = R) :
    Calls Try.prog 54 #[.int .i64 (n : Int), .slice (some ⟨g1, 0, none⟩) 3 k1, .slice (some ⟨g2, 0, none⟩) 3 k2] w (Ret w (.tuple #[ptV R.1.1 R.1.2.1 R.1.2.2, .int .i64 R.2])) := by
  have ia := in13' ha
  have ib := in13' hb
  have ic := in13' hc
  have id_ := in13' hd
  have ie := in13' he
  have if_ := in13' hf
  have HTc := Lib.hid (fun (W : World) (hW : Below w.heap.size w W) => l09Threes_any n (some ⟨g1, 0, none⟩) (some ⟨g2, 0, none⟩) 3 k1 3 k2 [(a0, a1, a2), (b0, b1, b2), (c0, c1, c2)] [(d0, d1, d2), (e0, e1, e2), (f0, f1, f2)] W (by omega) (by omega) ⟨rfl, .inr ⟨g1, rfl, hP1.below hW⟩⟩ ⟨rfl, .inr ⟨g2, rfl, hP2.below hW⟩⟩)
  rw [h3] at HTc
  have HA1 := Lib.hid (fun (W : World) => l01Three_any n a0 a1 a2 b0 b1 b2 c0 c1 c2 W hp ia ib ic)
  have HA2 := Lib.hid (fun (W : World) => l01Three_any n d0 d1 d2 e0 e1 e2 f0 f1 f2 W hp id_ ie if_)
  have HL : Hid (∀ W, Calls Try.prog 96 #[.int .i64 (n : Int), ptV a0 a1 a2, ptV b0 b1 b2] W (Ret W (.tuple #[ptV (crsN n (a0, a1, a2) (b0, b1, b2)).1 (crsN n (a0, a1, a2) (b0, b1, b2)).2.1 (crsN n (a0, a1, a2) (b0, b1, b2)).2.2, .bool (okC n (a0, a1, a2) (b0, b1, b2))]))) := Lib.hid (fun W => l01Join_crs n a0 a1 a2 b0 b1 b2 W hp ia ib)
  have HM : Hid (∀ W, Calls Try.prog 96 #[.int .i64 (n : Int), ptV d0 d1 d2, ptV e0 e1 e2] W (Ret W (.tuple #[ptV (crsN n (d0, d1, d2) (e0, e1, e2)).1 (crsN n (d0, d1, d2) (e0, e1, e2)).2.1 (crsN n (d0, d1, d2) (e0, e1, e2)).2.2, .bool (okC n (d0, d1, d2) (e0, e1, e2))]))) := Lib.hid (fun W => l01Join_crs n d0 d1 d2 e0 e1 e2 W hp id_ ie)
  have HJ1 : Hid (∀ W, Calls Try.prog 96 #[.int .i64 (n : Int), ptV a0 a1 a2, ptV e0 e1 e2] W (Ret W (.tuple #[ptV (crsN n (a0, a1, a2) (e0, e1, e2)).1 (crsN n (a0, a1, a2) (e0, e1, e2)).2.1 (crsN n (a0, a1, a2) (e0, e1, e2)).2.2, .bool (okC n (a0, a1, a2) (e0, e1, e2))]))) := Lib.hid (fun W => l01Join_crs n a0 a1 a2 e0 e1 e2 W hp ia ie)
  have HK1 : Hid (∀ W, Calls Try.prog 96 #[.int .i64 (n : Int), ptV b0 b1 b2, ptV d0 d1 d2] W (Ret W (.tuple #[ptV (crsN n (b0, b1, b2) (d0, d1, d2)).1 (crsN n (b0, b1, b2) (d0, d1, d2)).2.1 (crsN n (b0, b1, b2) (d0, d1, d2)).2.2, .bool (okC n (b0, b1, b2) (d0, d1, d2))]))) := Lib.hid (fun W => l01Join_crs n b0 b1 b2 d0 d1 d2 W hp ib id_)
  have HJ2 : Hid (∀ W, Calls Try.prog 96 #[.int .i64 (n : Int), ptV a0 a1 a2, ptV f0 f1 f2] W (Ret W (.tuple #[ptV (crsN n (a0, a1, a2) (f0, f1, f2)).1 (crsN n (a0, a1, a2) (f0, f1, f2)).2.1 (crsN n (a0, a1, a2) (f0, f1, f2)).2.2, .bool (okC n (a0, a1, a2) (f0, f1, f2))]))) := Lib.hid (fun W => l01Join_crs n a0 a1 a2 f0 f1 f2 W hp ia if_)
  have HK2 : Hid (∀ W, Calls Try.prog 96 #[.int .i64 (n : Int), ptV c0 c1 c2, ptV d0 d1 d2] W (Ret W (.tuple #[ptV (crsN n (c0, c1, c2) (d0, d1, d2)).1 (crsN n (c0, c1, c2) (d0, d1, d2)).2.1 (crsN n (c0, c1, c2) (d0, d1, d2)).2.2, .bool (okC n (c0, c1, c2) (d0, d1, d2))]))) := Lib.hid (fun W => l01Join_crs n c0 c1 c2 d0 d1 d2 W hp ic id_)
  have HJ3 : Hid (∀ W, Calls Try.prog 96 #[.int .i64 (n : Int), ptV b0 b1 b2, ptV f0 f1 f2] W (Ret W (.tuple #[ptV (crsN n (b0, b1, b2) (f0, f1, f2)).1 (crsN n (b0, b1, b2) (f0, f1, f2)).2.1 (crsN n (b0, b1, b2) (f0, f1, f2)).2.2, .bool (okC n (b0, b1, b2) (f0, f1, f2))]))) := Lib.hid (fun W => l01Join_crs n b0 b1 b2 f0 f1 f2 W hp ib if_)
  have HK3 : Hid (∀ W, Calls Try.prog 96 #[.int .i64 (n : Int), ptV c0 c1 c2, ptV e0 e1 e2] W (Ret W (.tuple #[ptV (crsN n (c0, c1, c2) (e0, e1, e2)).1 (crsN n (c0, c1, c2) (e0, e1, e2)).2.1 (crsN n (c0, c1, c2) (e0, e1, e2)).2.2, .bool (okC n (c0, c1, c2) (e0, e1, e2))]))) := Lib.hid (fun W => l01Join_crs n c0 c1 c2 e0 e1 e2 W hp ic ie)
  have iL : In13 (crsN n (a0, a1, a2) (b0, b1, b2)) := crsN_in' hp
  have iM : In13 (crsN n (d0, d1, d2) (e0, e1, e2)) := crsN_in' hp
  have iJ1 : In13 (crsN n (a0, a1, a2) (e0, e1, e2)) := crsN_in' hp
  have iK1 : In13 (crsN n (b0, b1, b2) (d0, d1, d2)) := crsN_in' hp
  have iJ2 : In13 (crsN n (a0, a1, a2) (f0, f1, f2)) := crsN_in' hp
  have iK2 : In13 (crsN n (c0, c1, c2) (d0, d1, d2)) := crsN_in' hp
  have iJ3 : In13 (crsN n (b0, b1, b2) (f0, f1, f2)) := crsN_in' hp
  have iK3 : In13 (crsN n (c0, c1, c2) (e0, e1, e2)) := crsN_in' hp
  have HX : Hid (∀ W, Calls Try.prog 98 #[.int .i64 (n : Int), ptV (crsN n (a0, a1, a2) (e0, e1, e2)).1 (crsN n (a0, a1, a2) (e0, e1, e2)).2.1 (crsN n (a0, a1, a2) (e0, e1, e2)).2.2, ptV (crsN n (b0, b1, b2) (d0, d1, d2)).1 (crsN n (b0, b1, b2) (d0, d1, d2)).2.1 (crsN n (b0, b1, b2) (d0, d1, d2)).2.2] W (Ret W (.tuple #[ptV (crsN n (crsN n (a0, a1, a2) (e0, e1, e2)) (crsN n (b0, b1, b2) (d0, d1, d2))).1 (crsN n (crsN n (a0, a1, a2) (e0, e1, e2)) (crsN n (b0, b1, b2) (d0, d1, d2))).2.1 (crsN n (crsN n (a0, a1, a2) (e0, e1, e2)) (crsN n (b0, b1, b2) (d0, d1, d2))).2.2, .bool (okC n (crsN n (a0, a1, a2) (e0, e1, e2)) (crsN n (b0, b1, b2) (d0, d1, d2)))]))) := Lib.hid (fun W => l01Meet_crs n (crsN n (a0, a1, a2) (e0, e1, e2)).1 (crsN n (a0, a1, a2) (e0, e1, e2)).2.1 (crsN n (a0, a1, a2) (e0, e1, e2)).2.2 (crsN n (b0, b1, b2) (d0, d1, d2)).1 (crsN n (b0, b1, b2) (d0, d1, d2)).2.1 (crsN n (b0, b1, b2) (d0, d1, d2)).2.2 W hp iJ1 iK1)
  have iX : In13 (crsN n (crsN n (a0, a1, a2) (e0, e1, e2)) (crsN n (b0, b1, b2) (d0, d1, d2))) := crsN_in' hp
  have HY : Hid (∀ W, Calls Try.prog 98 #[.int .i64 (n : Int), ptV (crsN n (a0, a1, a2) (f0, f1, f2)).1 (crsN n (a0, a1, a2) (f0, f1, f2)).2.1 (crsN n (a0, a1, a2) (f0, f1, f2)).2.2, ptV (crsN n (c0, c1, c2) (d0, d1, d2)).1 (crsN n (c0, c1, c2) (d0, d1, d2)).2.1 (crsN n (c0, c1, c2) (d0, d1, d2)).2.2] W (Ret W (.tuple #[ptV (crsN n (crsN n (a0, a1, a2) (f0, f1, f2)) (crsN n (c0, c1, c2) (d0, d1, d2))).1 (crsN n (crsN n (a0, a1, a2) (f0, f1, f2)) (crsN n (c0, c1, c2) (d0, d1, d2))).2.1 (crsN n (crsN n (a0, a1, a2) (f0, f1, f2)) (crsN n (c0, c1, c2) (d0, d1, d2))).2.2, .bool (okC n (crsN n (a0, a1, a2) (f0, f1, f2)) (crsN n (c0, c1, c2) (d0, d1, d2)))]))) := Lib.hid (fun W => l01Meet_crs n (crsN n (a0, a1, a2) (f0, f1, f2)).1 (crsN n (a0, a1, a2) (f0, f1, f2)).2.1 (crsN n (a0, a1, a2) (f0, f1, f2)).2.2 (crsN n (c0, c1, c2) (d0, d1, d2)).1 (crsN n (c0, c1, c2) (d0, d1, d2)).2.1 (crsN n (c0, c1, c2) (d0, d1, d2)).2.2 W hp iJ2 iK2)
  have iY : In13 (crsN n (crsN n (a0, a1, a2) (f0, f1, f2)) (crsN n (c0, c1, c2) (d0, d1, d2))) := crsN_in' hp
  have HV : Hid (∀ W, Calls Try.prog 98 #[.int .i64 (n : Int), ptV (crsN n (b0, b1, b2) (f0, f1, f2)).1 (crsN n (b0, b1, b2) (f0, f1, f2)).2.1 (crsN n (b0, b1, b2) (f0, f1, f2)).2.2, ptV (crsN n (c0, c1, c2) (e0, e1, e2)).1 (crsN n (c0, c1, c2) (e0, e1, e2)).2.1 (crsN n (c0, c1, c2) (e0, e1, e2)).2.2] W (Ret W (.tuple #[ptV (crsN n (crsN n (b0, b1, b2) (f0, f1, f2)) (crsN n (c0, c1, c2) (e0, e1, e2))).1 (crsN n (crsN n (b0, b1, b2) (f0, f1, f2)) (crsN n (c0, c1, c2) (e0, e1, e2))).2.1 (crsN n (crsN n (b0, b1, b2) (f0, f1, f2)) (crsN n (c0, c1, c2) (e0, e1, e2))).2.2, .bool (okC n (crsN n (b0, b1, b2) (f0, f1, f2)) (crsN n (c0, c1, c2) (e0, e1, e2)))]))) := Lib.hid (fun W => l01Meet_crs n (crsN n (b0, b1, b2) (f0, f1, f2)).1 (crsN n (b0, b1, b2) (f0, f1, f2)).2.1 (crsN n (b0, b1, b2) (f0, f1, f2)).2.2 (crsN n (c0, c1, c2) (e0, e1, e2)).1 (crsN n (c0, c1, c2) (e0, e1, e2)).2.1 (crsN n (c0, c1, c2) (e0, e1, e2)).2.2 W hp iJ3 iK3)
  have iV : In13 (crsN n (crsN n (b0, b1, b2) (f0, f1, f2)) (crsN n (c0, c1, c2) (e0, e1, e2))) := crsN_in' hp
  have Hoa0 : Hid (∀ W, Calls Try.prog 70 #[.int .i64 (n : Int), ptV a0 a1 a2, ptV (crsN n (d0, d1, d2) (e0, e1, e2)).1 (crsN n (d0, d1, d2) (e0, e1, e2)).2.1 (crsN n (d0, d1, d2) (e0, e1, e2)).2.2] W (Ret W (.bool (onB n (a0, a1, a2) (crsN n (d0, d1, d2) (e0, e1, e2)))))) := Lib.hid (fun W => l01On_any n a0 a1 a2 _ _ _ W hp ia iM)
  have Hob0 : Hid (∀ W, Calls Try.prog 70 #[.int .i64 (n : Int), ptV d0 d1 d2, ptV (crsN n (a0, a1, a2) (b0, b1, b2)).1 (crsN n (a0, a1, a2) (b0, b1, b2)).2.1 (crsN n (a0, a1, a2) (b0, b1, b2)).2.2] W (Ret W (.bool (onB n (d0, d1, d2) (crsN n (a0, a1, a2) (b0, b1, b2)))))) := Lib.hid (fun W => l01On_any n d0 d1 d2 _ _ _ W hp id_ iL)
  have Hoa1 : Hid (∀ W, Calls Try.prog 70 #[.int .i64 (n : Int), ptV b0 b1 b2, ptV (crsN n (d0, d1, d2) (e0, e1, e2)).1 (crsN n (d0, d1, d2) (e0, e1, e2)).2.1 (crsN n (d0, d1, d2) (e0, e1, e2)).2.2] W (Ret W (.bool (onB n (b0, b1, b2) (crsN n (d0, d1, d2) (e0, e1, e2)))))) := Lib.hid (fun W => l01On_any n b0 b1 b2 _ _ _ W hp ib iM)
  have Hob1 : Hid (∀ W, Calls Try.prog 70 #[.int .i64 (n : Int), ptV e0 e1 e2, ptV (crsN n (a0, a1, a2) (b0, b1, b2)).1 (crsN n (a0, a1, a2) (b0, b1, b2)).2.1 (crsN n (a0, a1, a2) (b0, b1, b2)).2.2] W (Ret W (.bool (onB n (e0, e1, e2) (crsN n (a0, a1, a2) (b0, b1, b2)))))) := Lib.hid (fun W => l01On_any n e0 e1 e2 _ _ _ W hp ie iL)
  have Hoa2 : Hid (∀ W, Calls Try.prog 70 #[.int .i64 (n : Int), ptV c0 c1 c2, ptV (crsN n (d0, d1, d2) (e0, e1, e2)).1 (crsN n (d0, d1, d2) (e0, e1, e2)).2.1 (crsN n (d0, d1, d2) (e0, e1, e2)).2.2] W (Ret W (.bool (onB n (c0, c1, c2) (crsN n (d0, d1, d2) (e0, e1, e2)))))) := Lib.hid (fun W => l01On_any n c0 c1 c2 _ _ _ W hp ic iM)
  have Hob2 : Hid (∀ W, Calls Try.prog 70 #[.int .i64 (n : Int), ptV f0 f1 f2, ptV (crsN n (a0, a1, a2) (b0, b1, b2)).1 (crsN n (a0, a1, a2) (b0, b1, b2)).2.1 (crsN n (a0, a1, a2) (b0, b1, b2)).2.2] W (Ret W (.bool (onB n (f0, f1, f2) (crsN n (a0, a1, a2) (b0, b1, b2)))))) := Lib.hid (fun W => l01On_any n f0 f1 f2 _ _ _ W hp if_ iL)
  have F1 := Lib.hid (fun (h : threeB n (a0, a1, a2) (b0, b1, b2) (c0, c1, c2) = false) => hR.symm.trans (papC_f1 (d0, d1, d2) (e0, e1, e2) (f0, f1, f2) h))
  have F2 := Lib.hid (fun (h : threeB n (d0, d1, d2) (e0, e1, e2) (f0, f1, f2) = false) => hR.symm.trans (papC_f2 (a0, a1, a2) (b0, b1, b2) (c0, c1, c2) h))
  have F3 : Hid (((onB n (a0, a1, a2) (crsN n (d0, d1, d2) (e0, e1, e2)) || onB n (d0, d1, d2) (crsN n (a0, a1, a2) (b0, b1, b2))) || ((onB n (b0, b1, b2) (crsN n (d0, d1, d2) (e0, e1, e2)) || onB n (e0, e1, e2) (crsN n (a0, a1, a2) (b0, b1, b2))) || (onB n (c0, c1, c2) (crsN n (d0, d1, d2) (e0, e1, e2)) || onB n (f0, f1, f2) (crsN n (a0, a1, a2) (b0, b1, b2))))) = true → R = ((0, 0, 0), 5)) := Lib.hid (fun h => hR.symm.trans (papC_on h))
  have F6 : Hid (threeB n (a0, a1, a2) (b0, b1, b2) (c0, c1, c2) = true → threeB n (d0, d1, d2) (e0, e1, e2) (f0, f1, f2) = true → ((onB n (a0, a1, a2) (crsN n (d0, d1, d2) (e0, e1, e2)) || onB n (d0, d1, d2) (crsN n (a0, a1, a2) (b0, b1, b2))) || ((onB n (b0, b1, b2) (crsN n (d0, d1, d2) (e0, e1, e2)) || onB n (e0, e1, e2) (crsN n (a0, a1, a2) (b0, b1, b2))) || (onB n (c0, c1, c2) (crsN n (d0, d1, d2) (e0, e1, e2)) || onB n (f0, f1, f2) (crsN n (a0, a1, a2) (b0, b1, b2))))) = false → R = ((crsN n (crsN n (crsN n (a0, a1, a2) (e0, e1, e2)) (crsN n (b0, b1, b2) (d0, d1, d2))) (crsN n (crsN n (a0, a1, a2) (f0, f1, f2)) (crsN n (c0, c1, c2) (d0, d1, d2)))), 0)) := Lib.hid (fun h1 h2 h4 => hR.symm.trans (papC_good h1 h2 h4))
  have HTh : Hid (threeB n (a0, a1, a2) (b0, b1, b2) (c0, c1, c2) = true → threeB n (d0, d1, d2) (e0, e1, e2) (f0, f1, f2) = true → ((onB n (a0, a1, a2) (crsN n (d0, d1, d2) (e0, e1, e2)) || onB n (d0, d1, d2) (crsN n (a0, a1, a2) (b0, b1, b2))) || ((onB n (b0, b1, b2) (crsN n (d0, d1, d2) (e0, e1, e2)) || onB n (e0, e1, e2) (crsN n (a0, a1, a2) (b0, b1, b2))) || (onB n (c0, c1, c2) (crsN n (d0, d1, d2) (e0, e1, e2)) || onB n (f0, f1, f2) (crsN n (a0, a1, a2) (b0, b1, b2))))) = false → ∀ (gl cap : Nat) (W : World), PtsAt W gl 0 3 [(crsN n (crsN n (a0, a1, a2) (e0, e1, e2)) (crsN n (b0, b1, b2) (d0, d1, d2))), (crsN n (crsN n (a0, a1, a2) (f0, f1, f2)) (crsN n (c0, c1, c2) (d0, d1, d2))), (crsN n (crsN n (b0, b1, b2) (f0, f1, f2)) (crsN n (c0, c1, c2) (e0, e1, e2)))] → Calls Try.prog 117 #[.int .i64 (n : Int), .slice (some ⟨gl, 0, none⟩) 3 cap] W (Ret W (.tuple #[ptV (crsN n (crsN n (crsN n (a0, a1, a2) (e0, e1, e2)) (crsN n (b0, b1, b2) (d0, d1, d2))) (crsN n (crsN n (a0, a1, a2) (f0, f1, f2)) (crsN n (c0, c1, c2) (d0, d1, d2)))).1 (crsN n (crsN n (crsN n (a0, a1, a2) (e0, e1, e2)) (crsN n (b0, b1, b2) (d0, d1, d2))) (crsN n (crsN n (a0, a1, a2) (f0, f1, f2)) (crsN n (c0, c1, c2) (d0, d1, d2)))).2.1 (crsN n (crsN n (crsN n (a0, a1, a2) (e0, e1, e2)) (crsN n (b0, b1, b2) (d0, d1, d2))) (crsN n (crsN n (a0, a1, a2) (f0, f1, f2)) (crsN n (c0, c1, c2) (d0, d1, d2)))).2.2, .bool (onB n (crsN n (crsN n (b0, b1, b2) (f0, f1, f2)) (crsN n (c0, c1, c2) (e0, e1, e2))) (crsN n (crsN n (crsN n (a0, a1, a2) (e0, e1, e2)) (crsN n (b0, b1, b2) (d0, d1, d2))) (crsN n (crsN n (a0, a1, a2) (f0, f1, f2)) (crsN n (c0, c1, c2) (d0, d1, d2)))))]))) := Lib.hid (fun h1 h2 h4 gl cap W h => l09Through_any n gl cap _ _ _ _ _ _ _ _ _ W hp iX iY iV (pap_ok (a := (a0, a1, a2)) (b := (b0, b1, b2)) (c := (c0, c1, c2)) (d := (d0, d1, d2)) (e := (e0, e1, e2)) (f := (f0, f1, f2)) ha hc he hf h1 h2 h4) h)
  have HP1 := Lib.hid hP1
  have HP2 := Lib.hid hP2
  clear hR hp h3 hP1 hP2 ha hb hc hd he hf ia ib ic id_ ie if_ iL iM iJ1 iK1 iJ2 iK2 iJ3 iK3 iX iY iV
  generalize onB n (crsN n (crsN n (b0, b1, b2) (f0, f1, f2)) (crsN n (c0, c1, c2) (e0, e1, e2))) (crsN n (crsN n (crsN n (a0, a1, a2) (e0, e1, e2)) (crsN n (b0, b1, b2) (d0, d1, d2))) (crsN n (crsN n (a0, a1, a2) (f0, f1, f2)) (crsN n (c0, c1, c2) (d0, d1, d2)))) = ov at *
  generalize onB n (a0, a1, a2) (crsN n (d0, d1, d2) (e0, e1, e2)) = oa0 at *
  generalize onB n (d0, d1, d2) (crsN n (a0, a1, a2) (b0, b1, b2)) = ob0 at *
  generalize onB n (b0, b1, b2) (crsN n (d0, d1, d2) (e0, e1, e2)) = oa1 at *
  generalize onB n (e0, e1, e2) (crsN n (a0, a1, a2) (b0, b1, b2)) = ob1 at *
  generalize onB n (c0, c1, c2) (crsN n (d0, d1, d2) (e0, e1, e2)) = oa2 at *
  generalize onB n (f0, f1, f2) (crsN n (a0, a1, a2) (b0, b1, b2)) = ob2 at *
  generalize threeB n (a0, a1, a2) (b0, b1, b2) (c0, c1, c2) = t1 at *
  generalize threeB n (d0, d1, d2) (e0, e1, e2) (f0, f1, f2) = t2 at *
  generalize okC n (a0, a1, a2) (b0, b1, b2) = uL at *
  generalize okC n (d0, d1, d2) (e0, e1, e2) = uM at *
  generalize okC n (a0, a1, a2) (e0, e1, e2) = uJ1 at *
  generalize okC n (b0, b1, b2) (d0, d1, d2) = uK1 at *
  generalize okC n (a0, a1, a2) (f0, f1, f2) = uJ2 at *
  generalize okC n (c0, c1, c2) (d0, d1, d2) = uK2 at *
  generalize okC n (b0, b1, b2) (f0, f1, f2) = uJ3 at *
  generalize okC n (c0, c1, c2) (e0, e1, e2) = uK3 at *
  generalize okC n (crsN n (a0, a1, a2) (e0, e1, e2)) (crsN n (b0, b1, b2) (d0, d1, d2)) = uX at *
  generalize okC n (crsN n (a0, a1, a2) (f0, f1, f2)) (crsN n (c0, c1, c2) (d0, d1, d2)) = uY at *
  generalize okC n (crsN n (b0, b1, b2) (f0, f1, f2)) (crsN n (c0, c1, c2) (e0, e1, e2)) = uV at *
  generalize (crsN n (crsN n (crsN n (a0, a1, a2) (e0, e1, e2)) (crsN n (b0, b1, b2) (d0, d1, d2))) (crsN n (crsN n (a0, a1, a2) (f0, f1, f2)) (crsN n (c0, c1, c2) (d0, d1, d2)))) = tR at *
  generalize (crsN n (crsN n (a0, a1, a2) (e0, e1, e2)) (crsN n (b0, b1, b2) (d0, d1, d2))) = tX at *
  generalize (crsN n (crsN n (a0, a1, a2) (f0, f1, f2)) (crsN n (c0, c1, c2) (d0, d1, d2))) = tY at *
  generalize (crsN n (crsN n (b0, b1, b2) (f0, f1, f2)) (crsN n (c0, c1, c2) (e0, e1, e2))) = tV at *
  generalize (crsN n (a0, a1, a2) (b0, b1, b2)) = tL at *
  generalize (crsN n (d0, d1, d2) (e0, e1, e2)) = tM at *
  generalize (crsN n (a0, a1, a2) (e0, e1, e2)) = tJ1 at *
  generalize (crsN n (b0, b1, b2) (d0, d1, d2)) = tK1 at *
  generalize (crsN n (a0, a1, a2) (f0, f1, f2)) = tJ2 at *
  generalize (crsN n (c0, c1, c2) (d0, d1, d2)) = tK2 at *
  generalize (crsN n (b0, b1, b2) (f0, f1, f2)) = tJ3 at *
  generalize (crsN n (c0, c1, c2) (e0, e1, e2)) = tK3 at *
  obtain ⟨R0, R1, R2⟩ := tR
  obtain ⟨X0, X1, X2⟩ := tX
  obtain ⟨Y0, Y1, Y2⟩ := tY
  obtain ⟨V0, V1, V2⟩ := tV
  obtain ⟨L0, L1, L2⟩ := tL
  obtain ⟨M0, M1, M2⟩ := tM
  obtain ⟨J10, J11, J12⟩ := tJ1
  obtain ⟨K10, K11, K12⟩ := tK1
  obtain ⟨J20, J21, J22⟩ := tJ2
  obtain ⟨K20, K21, K22⟩ := tK2
  obtain ⟨J30, J31, J32⟩ := tJ3
  obtain ⟨K30, K31, K32⟩ := tK3
  obtain ⟨i0, hi, hz0, hz1, hz2⟩ := info_parts infoPo
  have HI0 := Lib.hid hi; have HZ0 := Lib.hid hz0; have HZ1 := Lib.hid hz1; have HZ2 := Lib.hid hz2
  clear hi hz0 hz1 hz2
  dsimp only at *
  go_enter Try.func54, Try.ntmps54
  go_wp2_with (go_at_call 116; (with_reducible refine (HTc.out _ (bal (Below.refl _ _) _)).mono ?_); rintro e w1_ ⟨rfl, hb1⟩; obtain ⟨hcb1, hfb1, hlb1⟩ := bcell hb1; have hsz1 := hb1.size; (try simp at hsz1); have HB1 := Lib.hid hb1; clear hb1; (try (have hl01 : w.heap.size < w1_.heap.size := by omega)))
  have kr : w1_.heap[w.heap.size]? = some (.cells #[.int .i64 0, .int .i64 0, .int .i64 0] 24 (0, 0)) := by rw [HB1.out.block _ (by simp)]; exact heap_alloc_new _ _
  have HBs := Lib.hid (show Below w.heap.size w w1_ from (by repeat (first | exact Below.refl _ _ | refine bset ?_ _ _ (by omega) _ | refine bal ?_ _ | refine bdrN ?_ _ | refine bdr ?_ | refine below_tr' ?_ HB1.out)))
  have KR := Lib.hid kr
  have HPa := Lib.hid (HP1.out.below HBs.out)
  have HPb := Lib.hid (HP2.out.below HBs.out)
  clear kr hcb1 hfb1 hlb1 HB1 HTc
  cases t1 with
  | false =>
    refine region_calmG [(33, .int .i64 (n : Int)), (34, .slice (some ⟨g1, 0, none⟩) 3 k1), (35, .pointer (some ⟨g1, 0, none⟩)), (36, ptV a0 a1 a2), (37, .slice (some ⟨g1, 0, none⟩) 3 k1), (38, .pointer (some ⟨g1, 3, none⟩)), (39, ptV b0 b1 b2), (40, .slice (some ⟨g1, 0, none⟩) 3 k1), (41, .pointer (some ⟨g1, 6, none⟩)), (42, ptV c0 c1 c2), (43, .bool false), (44, .bool true), (45, .bool true), (46, undef), (47, undef), (48, undef), (49, undef), (50, undef), (51, undef), (52, undef), (53, undef), (54, undef), (55, undef), (56, undef), (57, undef), (58, .bool true)] (by kernel_rfl) (by kernel_rfl) (by kernel_rfl) (fun aE hpe => ?_)
    simp only [puts, Act.put, List.setIfInBounds_toArray, List.set_cons_zero, List.set_cons_succ] at hpe
    subst hpe
    refine ⟨⟨.inr (.inr ?_), .inr (.inr ?_), .inr (.inr ?_), .inr (.inr ?_), .inr (.inr ?_), .inr (.inr ?_), .inr (.inr ?_), .inr (.inr ?_), .inr (.inr ?_), .inr (.inr ?_), .inr (.inr ?_), .inr (.inr ?_), .inr (.inr ?_), .inr (.inr ?_), .inr (.inr ?_), .inr (.inr ?_), .inr (.inr ?_), .inr (.inr ?_), .inr (.inr ?_), .inr (.inr ?_), .inr (.inr ?_), .inr (.inr ?_), .inr (.inr ?_), .inr (.inr ?_), .inr (.inr ?_), .inr (.inr ?_), trivial⟩, ?_⟩
    · exact CalmG.mk 33 (.int .i64 (n : Int)) rfl rfl rfl (fun W hW => calm_move (.tmp 0) rfl rfl)
    · exact CalmG.mk 34 (.slice (some ⟨g1, 0, none⟩) 3 k1) rfl rfl rfl (fun W hW => calm_move (.tmp 1) rfl rfl)
    · exact CalmG.mk 35 (.pointer (some ⟨g1, 0, none⟩)) rfl rfl rfl (fun W hW => calm_run (by simp [execOp, Act.eval, go_sem]))
    · exact CalmG.mk 36 (ptV a0 a1 a2) rfl rfl rfl (fun W hW => calm_loadPt 23 (.tmp 35) rfl rfl (cell_below hW (HPa.out 0 (by omega)).1) (cell_below hW (HPa.out 0 (by omega)).2.1) (cell_below hW (HPa.out 0 (by omega)).2.2) Try.sizeOf23 Try.isAgg23)
    · exact CalmG.mk 37 (.slice (some ⟨g1, 0, none⟩) 3 k1) rfl rfl rfl (fun W hW => calm_move (.tmp 1) rfl rfl)
    · exact CalmG.mk 38 (.pointer (some ⟨g1, 3, none⟩)) rfl rfl rfl (fun W hW => calm_run (by simp [execOp, Act.eval, go_sem]))
    · exact CalmG.mk 39 (ptV b0 b1 b2) rfl rfl rfl (fun W hW => calm_loadPt 23 (.tmp 38) rfl rfl (cell_below hW (HPa.out 1 (by omega)).1) (cell_below hW (HPa.out 1 (by omega)).2.1) (cell_below hW (HPa.out 1 (by omega)).2.2) Try.sizeOf23 Try.isAgg23)
    · exact CalmG.mk 40 (.slice (some ⟨g1, 0, none⟩) 3 k1) rfl rfl rfl (fun W hW => calm_move (.tmp 1) rfl rfl)
    · exact CalmG.mk 41 (.pointer (some ⟨g1, 6, none⟩)) rfl rfl rfl (fun W hW => calm_run (by simp [execOp, Act.eval, go_sem]))
    · exact CalmG.mk 42 (ptV c0 c1 c2) rfl rfl rfl (fun W hW => calm_loadPt 23 (.tmp 41) rfl rfl (cell_below hW (HPa.out 2 (by omega)).1) (cell_below hW (HPa.out 2 (by omega)).2.1) (cell_below hW (HPa.out 2 (by omega)).2.2) Try.sizeOf23 Try.isAgg23)
    · exact CalmG.mk 43 (.bool false) rfl rfl rfl (fun W hW => calm_call 95 _ #[.int .i64 (n : Int), ptV a0 a1 a2, ptV b0 b1 b2, ptV c0 c1 c2] rfl rfl rfl (by simp [Act.eval]) (Try.call95 _ _) (HA1.out W))
    · exact CalmG.mk 44 (.bool true) rfl rfl rfl (fun W hW => calm_run (by simp [execOp, Act.eval, go_sem]))
    · exact CalmG.mk 45 (.bool true) rfl rfl rfl (fun W hW => calm_move (.tmp 44) rfl rfl)
    · exact CalmG.out 46 rfl rfl rfl
    · exact CalmG.out 47 rfl rfl rfl
    · exact CalmG.out 48 rfl rfl rfl
    · exact CalmG.out 49 rfl rfl rfl
    · exact CalmG.out 50 rfl rfl rfl
    · exact CalmG.out 51 rfl rfl rfl
    · exact CalmG.out 52 rfl rfl rfl
    · exact CalmG.out 53 rfl rfl rfl
    · exact CalmG.out 54 rfl rfl rfl
    · exact CalmG.out 55 rfl rfl rfl
    · exact CalmG.out 56 rfl rfl rfl
    · exact CalmG.out 57 rfl rfl rfl
    · exact CalmG.mk 58 (.bool true) rfl rfl rfl (fun W hW => calm_run (by simp [execOp, Act.eval, go_sem]))
    intro W4 hW
    have lr0 := (Array.getElem?_eq_some_iff.1 KR.out).1
    replace KR := Lib.hid ((hW.block _ lr0).trans KR.out)
    replace HBs := Lib.hid (low_tr' HBs.out hW HBs.out.size)
    replace HPa := Lib.hid (HP1.out.below HBs.out)
    replace HPb := Lib.hid (HP2.out.below HBs.out)
    clear hW lr0
    clear HA1 HA2
    go_wp2_with (first
      | (refine wpList_build _ rfl 24 _ rfl #[.int .i64 0, .int .i64 0, .int .i64 0] (by kernel_rfl) ?_)
      | (refine wpList_store_row _ rfl 24 _ _ rfl rfl (g := w.heap.size) (T := 24) (cs := #[.int .i64 0, .int .i64 0, .int .i64 0]) (U := #[.int .i64 0, .int .i64 0, .int .i64 0]) rfl rfl KR.out rfl Try.sizeOf24 (by simp [Value.oneCell']) ?_))
    obtain rfl := F1.out (by first | rfl | trivial)
    exact bodyPost_ret (v := .tuple #[ptV 0 0 0, .int .i64 5]) (results_rowT Try.results54 rfl rfl (setRow_heap _ _ #[.int .i64 0, .int .i64 0, .int .i64 0] _ _ _ KR.out) 3 rfl Try.sizeOf24 Try.isAgg24) rfl ⟨rfl, below_setRowN HBs.out (Nat.le_refl _) _⟩
  | true =>
    cases t2 with
    | false =>
      refine region_calmG [(33, .int .i64 (n : Int)), (34, .slice (some ⟨g1, 0, none⟩) 3 k1), (35, .pointer (some ⟨g1, 0, none⟩)), (36, ptV a0 a1 a2), (37, .slice (some ⟨g1, 0, none⟩) 3 k1), (38, .pointer (some ⟨g1, 3, none⟩)), (39, ptV b0 b1 b2), (40, .slice (some ⟨g1, 0, none⟩) 3 k1), (41, .pointer (some ⟨g1, 6, none⟩)), (42, ptV c0 c1 c2), (43, .bool true), (44, .bool false), (45, .bool false), (46, .int .i64 (n : Int)), (47, .slice (some ⟨g2, 0, none⟩) 3 k2), (48, .pointer (some ⟨g2, 0, none⟩)), (49, ptV d0 d1 d2), (50, .slice (some ⟨g2, 0, none⟩) 3 k2), (51, .pointer (some ⟨g2, 3, none⟩)), (52, ptV e0 e1 e2), (53, .slice (some ⟨g2, 0, none⟩) 3 k2), (54, .pointer (some ⟨g2, 6, none⟩)), (55, ptV f0 f1 f2), (56, .bool false), (57, .bool true), (58, .bool true)] (by kernel_rfl) (by kernel_rfl) (by kernel_rfl) (fun aE hpe => ?_)
      simp only [puts, Act.put, List.setIfInBounds_toArray, List.set_cons_zero, List.set_cons_succ] at hpe
      subst hpe
      refine ⟨⟨.inr (.inr ?_), .inr (.inr ?_), .inr (.inr ?_), .inr (.inr ?_), .inr (.inr ?_), .inr (.inr ?_), .inr (.inr ?_), .inr (.inr ?_), .inr (.inr ?_), .inr (.inr ?_), .inr (.inr ?_), .inr (.inr ?_), .inr (.inr ?_), .inr (.inr ?_), .inr (.inr ?_), .inr (.inr ?_), .inr (.inr ?_), .inr (.inr ?_), .inr (.inr ?_), .inr (.inr ?_), .inr (.inr ?_), .inr (.inr ?_), .inr (.inr ?_), .inr (.inr ?_), .inr (.inr ?_), .inr (.inr ?_), trivial⟩, ?_⟩
      · exact CalmG.mk 33 (.int .i64 (n : Int)) rfl rfl rfl (fun W hW => calm_move (.tmp 0) rfl rfl)
      · exact CalmG.mk 34 (.slice (some ⟨g1, 0, none⟩) 3 k1) rfl rfl rfl (fun W hW => calm_move (.tmp 1) rfl rfl)
      · exact CalmG.mk 35 (.pointer (some ⟨g1, 0, none⟩)) rfl rfl rfl (fun W hW => calm_run (by simp [execOp, Act.eval, go_sem]))
      · exact CalmG.mk 36 (ptV a0 a1 a2) rfl rfl rfl (fun W hW => calm_loadPt 23 (.tmp 35) rfl rfl (cell_below hW (HPa.out 0 (by omega)).1) (cell_below hW (HPa.out 0 (by omega)).2.1) (cell_below hW (HPa.out 0 (by omega)).2.2) Try.sizeOf23 Try.isAgg23)
      · exact CalmG.mk 37 (.slice (some ⟨g1, 0, none⟩) 3 k1) rfl rfl rfl (fun W hW => calm_move (.tmp 1) rfl rfl)
      · exact CalmG.mk 38 (.pointer (some ⟨g1, 3, none⟩)) rfl rfl rfl (fun W hW => calm_run (by simp [execOp, Act.eval, go_sem]))
      · exact CalmG.mk 39 (ptV b0 b1 b2) rfl rfl rfl (fun W hW => calm_loadPt 23 (.tmp 38) rfl rfl (cell_below hW (HPa.out 1 (by omega)).1) (cell_below hW (HPa.out 1 (by omega)).2.1) (cell_below hW (HPa.out 1 (by omega)).2.2) Try.sizeOf23 Try.isAgg23)
      · exact CalmG.mk 40 (.slice (some ⟨g1, 0, none⟩) 3 k1) rfl rfl rfl (fun W hW => calm_move (.tmp 1) rfl rfl)
      · exact CalmG.mk 41 (.pointer (some ⟨g1, 6, none⟩)) rfl rfl rfl (fun W hW => calm_run (by simp [execOp, Act.eval, go_sem]))
      · exact CalmG.mk 42 (ptV c0 c1 c2) rfl rfl rfl (fun W hW => calm_loadPt 23 (.tmp 41) rfl rfl (cell_below hW (HPa.out 2 (by omega)).1) (cell_below hW (HPa.out 2 (by omega)).2.1) (cell_below hW (HPa.out 2 (by omega)).2.2) Try.sizeOf23 Try.isAgg23)
      · exact CalmG.mk 43 (.bool true) rfl rfl rfl (fun W hW => calm_call 95 _ #[.int .i64 (n : Int), ptV a0 a1 a2, ptV b0 b1 b2, ptV c0 c1 c2] rfl rfl rfl (by simp [Act.eval]) (Try.call95 _ _) (HA1.out W))
      · exact CalmG.mk 44 (.bool false) rfl rfl rfl (fun W hW => calm_run (by simp [execOp, Act.eval, go_sem]))
      · exact CalmG.mk 45 (.bool false) rfl rfl rfl (fun W hW => calm_move (.tmp 44) rfl rfl)
      · exact CalmG.mk 46 (.int .i64 (n : Int)) rfl rfl rfl (fun W hW => calm_move (.tmp 0) rfl rfl)
      · exact CalmG.mk 47 (.slice (some ⟨g2, 0, none⟩) 3 k2) rfl rfl rfl (fun W hW => calm_move (.tmp 2) rfl rfl)
      · exact CalmG.mk 48 (.pointer (some ⟨g2, 0, none⟩)) rfl rfl rfl (fun W hW => calm_run (by simp [execOp, Act.eval, go_sem]))
      · exact CalmG.mk 49 (ptV d0 d1 d2) rfl rfl rfl (fun W hW => calm_loadPt 23 (.tmp 48) rfl rfl (cell_below hW (HPb.out 0 (by omega)).1) (cell_below hW (HPb.out 0 (by omega)).2.1) (cell_below hW (HPb.out 0 (by omega)).2.2) Try.sizeOf23 Try.isAgg23)
      · exact CalmG.mk 50 (.slice (some ⟨g2, 0, none⟩) 3 k2) rfl rfl rfl (fun W hW => calm_move (.tmp 2) rfl rfl)
      · exact CalmG.mk 51 (.pointer (some ⟨g2, 3, none⟩)) rfl rfl rfl (fun W hW => calm_run (by simp [execOp, Act.eval, go_sem]))
      · exact CalmG.mk 52 (ptV e0 e1 e2) rfl rfl rfl (fun W hW => calm_loadPt 23 (.tmp 51) rfl rfl (cell_below hW (HPb.out 1 (by omega)).1) (cell_below hW (HPb.out 1 (by omega)).2.1) (cell_below hW (HPb.out 1 (by omega)).2.2) Try.sizeOf23 Try.isAgg23)
      · exact CalmG.mk 53 (.slice (some ⟨g2, 0, none⟩) 3 k2) rfl rfl rfl (fun W hW => calm_move (.tmp 2) rfl rfl)
      · exact CalmG.mk 54 (.pointer (some ⟨g2, 6, none⟩)) rfl rfl rfl (fun W hW => calm_run (by simp [execOp, Act.eval, go_sem]))
      · exact CalmG.mk 55 (ptV f0 f1 f2) rfl rfl rfl (fun W hW => calm_loadPt 23 (.tmp 54) rfl rfl (cell_below hW (HPb.out 2 (by omega)).1) (cell_below hW (HPb.out 2 (by omega)).2.1) (cell_below hW (HPb.out 2 (by omega)).2.2) Try.sizeOf23 Try.isAgg23)
      · exact CalmG.mk 56 (.bool false) rfl rfl rfl (fun W hW => calm_call 95 _ #[.int .i64 (n : Int), ptV d0 d1 d2, ptV e0 e1 e2, ptV f0 f1 f2] rfl rfl rfl (by simp [Act.eval]) (Try.call95 _ _) (HA2.out W))
      · exact CalmG.mk 57 (.bool true) rfl rfl rfl (fun W hW => calm_run (by simp [execOp, Act.eval, go_sem]))
      · exact CalmG.mk 58 (.bool true) rfl rfl rfl (fun W hW => calm_run (by simp [execOp, Act.eval, go_sem]))
      intro W4 hW
      have lr0 := (Array.getElem?_eq_some_iff.1 KR.out).1
      replace KR := Lib.hid ((hW.block _ lr0).trans KR.out)
      replace HBs := Lib.hid (low_tr' HBs.out hW HBs.out.size)
      replace HPa := Lib.hid (HP1.out.below HBs.out)
      replace HPb := Lib.hid (HP2.out.below HBs.out)
      clear hW lr0
      clear HA1 HA2
      go_wp2_with (first
        | (refine wpList_build _ rfl 24 _ rfl #[.int .i64 0, .int .i64 0, .int .i64 0] (by kernel_rfl) ?_)
        | (refine wpList_store_row _ rfl 24 _ _ rfl rfl (g := w.heap.size) (T := 24) (cs := #[.int .i64 0, .int .i64 0, .int .i64 0]) (U := #[.int .i64 0, .int .i64 0, .int .i64 0]) rfl rfl KR.out rfl Try.sizeOf24 (by simp [Value.oneCell']) ?_))
      obtain rfl := F2.out (by first | rfl | trivial)
      exact bodyPost_ret (v := .tuple #[ptV 0 0 0, .int .i64 5]) (results_rowT Try.results54 rfl rfl (setRow_heap _ _ #[.int .i64 0, .int .i64 0, .int .i64 0] _ _ _ KR.out) 3 rfl Try.sizeOf24 Try.isAgg24) rfl ⟨rfl, below_setRowN HBs.out (Nat.le_refl _) _⟩
    | true =>
      refine region_calmG [(33, .int .i64 (n : Int)), (34, .slice (some ⟨g1, 0, none⟩) 3 k1), (35, .pointer (some ⟨g1, 0, none⟩)), (36, ptV a0 a1 a2), (37, .slice (some ⟨g1, 0, none⟩) 3 k1), (38, .pointer (some ⟨g1, 3, none⟩)), (39, ptV b0 b1 b2), (40, .slice (some ⟨g1, 0, none⟩) 3 k1), (41, .pointer (some ⟨g1, 6, none⟩)), (42, ptV c0 c1 c2), (43, .bool true), (44, .bool false), (45, .bool false), (46, .int .i64 (n : Int)), (47, .slice (some ⟨g2, 0, none⟩) 3 k2), (48, .pointer (some ⟨g2, 0, none⟩)), (49, ptV d0 d1 d2), (50, .slice (some ⟨g2, 0, none⟩) 3 k2), (51, .pointer (some ⟨g2, 3, none⟩)), (52, ptV e0 e1 e2), (53, .slice (some ⟨g2, 0, none⟩) 3 k2), (54, .pointer (some ⟨g2, 6, none⟩)), (55, ptV f0 f1 f2), (56, .bool true), (57, .bool false), (58, .bool false)] (by kernel_rfl) (by kernel_rfl) (by kernel_rfl) (fun aE hpe => ?_)
      simp only [puts, Act.put, List.setIfInBounds_toArray, List.set_cons_zero, List.set_cons_succ] at hpe
      subst hpe
      refine ⟨⟨.inr (.inr ?_), .inr (.inr ?_), .inr (.inr ?_), .inr (.inr ?_), .inr (.inr ?_), .inr (.inr ?_), .inr (.inr ?_), .inr (.inr ?_), .inr (.inr ?_), .inr (.inr ?_), .inr (.inr ?_), .inr (.inr ?_), .inr (.inr ?_), .inr (.inr ?_), .inr (.inr ?_), .inr (.inr ?_), .inr (.inr ?_), .inr (.inr ?_), .inr (.inr ?_), .inr (.inr ?_), .inr (.inr ?_), .inr (.inr ?_), .inr (.inr ?_), .inr (.inr ?_), .inr (.inr ?_), .inr (.inr ?_), trivial⟩, ?_⟩
      · exact CalmG.mk 33 (.int .i64 (n : Int)) rfl rfl rfl (fun W hW => calm_move (.tmp 0) rfl rfl)
      · exact CalmG.mk 34 (.slice (some ⟨g1, 0, none⟩) 3 k1) rfl rfl rfl (fun W hW => calm_move (.tmp 1) rfl rfl)
      · exact CalmG.mk 35 (.pointer (some ⟨g1, 0, none⟩)) rfl rfl rfl (fun W hW => calm_run (by simp [execOp, Act.eval, go_sem]))
      · exact CalmG.mk 36 (ptV a0 a1 a2) rfl rfl rfl (fun W hW => calm_loadPt 23 (.tmp 35) rfl rfl (cell_below hW (HPa.out 0 (by omega)).1) (cell_below hW (HPa.out 0 (by omega)).2.1) (cell_below hW (HPa.out 0 (by omega)).2.2) Try.sizeOf23 Try.isAgg23)
      · exact CalmG.mk 37 (.slice (some ⟨g1, 0, none⟩) 3 k1) rfl rfl rfl (fun W hW => calm_move (.tmp 1) rfl rfl)
      · exact CalmG.mk 38 (.pointer (some ⟨g1, 3, none⟩)) rfl rfl rfl (fun W hW => calm_run (by simp [execOp, Act.eval, go_sem]))
      · exact CalmG.mk 39 (ptV b0 b1 b2) rfl rfl rfl (fun W hW => calm_loadPt 23 (.tmp 38) rfl rfl (cell_below hW (HPa.out 1 (by omega)).1) (cell_below hW (HPa.out 1 (by omega)).2.1) (cell_below hW (HPa.out 1 (by omega)).2.2) Try.sizeOf23 Try.isAgg23)
      · exact CalmG.mk 40 (.slice (some ⟨g1, 0, none⟩) 3 k1) rfl rfl rfl (fun W hW => calm_move (.tmp 1) rfl rfl)
      · exact CalmG.mk 41 (.pointer (some ⟨g1, 6, none⟩)) rfl rfl rfl (fun W hW => calm_run (by simp [execOp, Act.eval, go_sem]))
      · exact CalmG.mk 42 (ptV c0 c1 c2) rfl rfl rfl (fun W hW => calm_loadPt 23 (.tmp 41) rfl rfl (cell_below hW (HPa.out 2 (by omega)).1) (cell_below hW (HPa.out 2 (by omega)).2.1) (cell_below hW (HPa.out 2 (by omega)).2.2) Try.sizeOf23 Try.isAgg23)
      · exact CalmG.mk 43 (.bool true) rfl rfl rfl (fun W hW => calm_call 95 _ #[.int .i64 (n : Int), ptV a0 a1 a2, ptV b0 b1 b2, ptV c0 c1 c2] rfl rfl rfl (by simp [Act.eval]) (Try.call95 _ _) (HA1.out W))
      · exact CalmG.mk 44 (.bool false) rfl rfl rfl (fun W hW => calm_run (by simp [execOp, Act.eval, go_sem]))
      · exact CalmG.mk 45 (.bool false) rfl rfl rfl (fun W hW => calm_move (.tmp 44) rfl rfl)
      · exact CalmG.mk 46 (.int .i64 (n : Int)) rfl rfl rfl (fun W hW => calm_move (.tmp 0) rfl rfl)
      · exact CalmG.mk 47 (.slice (some ⟨g2, 0, none⟩) 3 k2) rfl rfl rfl (fun W hW => calm_move (.tmp 2) rfl rfl)
      · exact CalmG.mk 48 (.pointer (some ⟨g2, 0, none⟩)) rfl rfl rfl (fun W hW => calm_run (by simp [execOp, Act.eval, go_sem]))
      · exact CalmG.mk 49 (ptV d0 d1 d2) rfl rfl rfl (fun W hW => calm_loadPt 23 (.tmp 48) rfl rfl (cell_below hW (HPb.out 0 (by omega)).1) (cell_below hW (HPb.out 0 (by omega)).2.1) (cell_below hW (HPb.out 0 (by omega)).2.2) Try.sizeOf23 Try.isAgg23)
      · exact CalmG.mk 50 (.slice (some ⟨g2, 0, none⟩) 3 k2) rfl rfl rfl (fun W hW => calm_move (.tmp 2) rfl rfl)
      · exact CalmG.mk 51 (.pointer (some ⟨g2, 3, none⟩)) rfl rfl rfl (fun W hW => calm_run (by simp [execOp, Act.eval, go_sem]))
      · exact CalmG.mk 52 (ptV e0 e1 e2) rfl rfl rfl (fun W hW => calm_loadPt 23 (.tmp 51) rfl rfl (cell_below hW (HPb.out 1 (by omega)).1) (cell_below hW (HPb.out 1 (by omega)).2.1) (cell_below hW (HPb.out 1 (by omega)).2.2) Try.sizeOf23 Try.isAgg23)
      · exact CalmG.mk 53 (.slice (some ⟨g2, 0, none⟩) 3 k2) rfl rfl rfl (fun W hW => calm_move (.tmp 2) rfl rfl)
      · exact CalmG.mk 54 (.pointer (some ⟨g2, 6, none⟩)) rfl rfl rfl (fun W hW => calm_run (by simp [execOp, Act.eval, go_sem]))
      · exact CalmG.mk 55 (ptV f0 f1 f2) rfl rfl rfl (fun W hW => calm_loadPt 23 (.tmp 54) rfl rfl (cell_below hW (HPb.out 2 (by omega)).1) (cell_below hW (HPb.out 2 (by omega)).2.1) (cell_below hW (HPb.out 2 (by omega)).2.2) Try.sizeOf23 Try.isAgg23)
      · exact CalmG.mk 56 (.bool true) rfl rfl rfl (fun W hW => calm_call 95 _ #[.int .i64 (n : Int), ptV d0 d1 d2, ptV e0 e1 e2, ptV f0 f1 f2] rfl rfl rfl (by simp [Act.eval]) (Try.call95 _ _) (HA2.out W))
      · exact CalmG.mk 57 (.bool false) rfl rfl rfl (fun W hW => calm_run (by simp [execOp, Act.eval, go_sem]))
      · exact CalmG.mk 58 (.bool false) rfl rfl rfl (fun W hW => calm_run (by simp [execOp, Act.eval, go_sem]))
      intro W4 hW
      have lr0 := (Array.getElem?_eq_some_iff.1 KR.out).1
      replace KR := Lib.hid ((hW.block _ lr0).trans KR.out)
      replace HBs := Lib.hid (low_tr' HBs.out hW HBs.out.size)
      replace HPa := Lib.hid (HP1.out.below HBs.out)
      replace HPb := Lib.hid (HP2.out.below HBs.out)
      clear hW lr0
      clear HA1 HA2
      clear F1 F2
      go_wp2
      refine region_boxes [⟨11, 12, 9, 24, #[.int .i64 0, .int .i64 0, .int .i64 0], #[.int .i64 L0, .int .i64 L1, .int .i64 L2]⟩] [(61, .int .i64 (n : Int)), (62, .slice (some ⟨g1, 0, none⟩) 3 k1), (63, .pointer (some ⟨g1, 0, none⟩)), (64, ptV a0 a1 a2), (65, .slice (some ⟨g1, 0, none⟩) 3 k1), (66, .pointer (some ⟨g1, 3, none⟩)), (67, ptV b0 b1 b2), (68, .tuple #[ptV L0 L1 L2, .bool uL]), (60, .tuple #[ptV L0 L1 L2, .bool uL]), (69, ptV L0 L1 L2), (70, .bool uL), (10, .bool uL)] (by kernel_rfl) (by kernel_rfl) (by kernel_rfl) (fun aE hpe => ?_)
      simp only [puts, Act.put, List.setIfInBounds_toArray, List.set_cons_zero, List.set_cons_succ] at hpe
      subst hpe
      refine ⟨⟨⟨?_, ?_⟩, trivial⟩, ⟨.inr ?_, .inr ?_, .inr ?_, .inr ?_, .inr ?_, .inr ?_, .inr ?_, .inr ?_, .inr ?_, .inr ?_, .inr ?_, .inl rfl, .inl rfl, .inr ?_, trivial⟩, ?_⟩
      · intro o ho ρ W
        obtain rfl : _ = o := Option.some.inj ho
        simp [execOp, go_sem]
      · intro o ho ρ W g hv hp hg
        obtain rfl : _ = o := Option.some.inj ho
        exact run_store_row (U := #[.int .i64 L0, .int .i64 L1, .int .i64 L2]) 24 (.tmp 9) (.tmp 69) rfl hp (hv 69 (by simp [readsOf, Op.operands]) (by show (69 : Nat) ≠ 9; decide)) hg rfl Try.sizeOf24 (by simp [Value.oneCell'])
      · exact CalmG.mk 61 (.int .i64 (n : Int)) rfl rfl rfl (fun W hW => calm_move (.tmp 0) rfl rfl)
      · exact CalmG.mk 62 (.slice (some ⟨g1, 0, none⟩) 3 k1) rfl rfl rfl (fun W hW => calm_move (.tmp 1) rfl rfl)
      · exact CalmG.mk 63 (.pointer (some ⟨g1, 0, none⟩)) rfl rfl rfl (fun W hW => calm_run (by simp [execOp, Act.eval, go_sem]))
      · exact CalmG.mk 64 (ptV a0 a1 a2) rfl rfl rfl (fun W hW => calm_loadPt 23 (.tmp 63) rfl rfl (cell_below hW (HPa.out 0 (by omega)).1) (cell_below hW (HPa.out 0 (by omega)).2.1) (cell_below hW (HPa.out 0 (by omega)).2.2) Try.sizeOf23 Try.isAgg23)
      · exact CalmG.mk 65 (.slice (some ⟨g1, 0, none⟩) 3 k1) rfl rfl rfl (fun W hW => calm_move (.tmp 1) rfl rfl)
      · exact CalmG.mk 66 (.pointer (some ⟨g1, 3, none⟩)) rfl rfl rfl (fun W hW => calm_run (by simp [execOp, Act.eval, go_sem]))
      · exact CalmG.mk 67 (ptV b0 b1 b2) rfl rfl rfl (fun W hW => calm_loadPt 23 (.tmp 66) rfl rfl (cell_below hW (HPa.out 1 (by omega)).1) (cell_below hW (HPa.out 1 (by omega)).2.1) (cell_below hW (HPa.out 1 (by omega)).2.2) Try.sizeOf23 Try.isAgg23)
      · exact CalmG.mk 68 (.tuple #[ptV L0 L1 L2, .bool uL]) rfl rfl rfl (fun W hW => calm_call 96 _ #[.int .i64 (n : Int), ptV a0 a1 a2, ptV b0 b1 b2] rfl rfl rfl (by simp [Act.eval]) (Try.call96 _ _) (HL.out W))
      · exact CalmG.mk 60 (.tuple #[ptV L0 L1 L2, .bool uL]) rfl rfl rfl (fun W hW => calm_move (.tmp 68) rfl rfl)
      · exact CalmG.mk 69 (ptV L0 L1 L2) rfl rfl rfl (fun W hW => calm_extract (.tmp 60) 0 rfl rfl rfl)
      · exact CalmG.mk 70 (.bool uL) rfl rfl rfl (fun W hW => calm_extract (.tmp 60) 1 rfl rfl rfl)
      · exact CalmG.mk 10 (.bool uL) rfl rfl rfl (fun W hW => calm_assign (.tmp 70) rfl rfl)
      intro g W6 hW hbx _
      obtain ⟨sg0, sk0⟩ := hbx _ (.head _)
      dsimp only at sg0 sk0
      simp only [List.map_cons, List.map_nil, puts, Act.put, List.setIfInBounds_toArray, List.set_cons_zero, List.set_cons_succ]
      clear hbx
      generalize g 9 = sb0 at *
      have lr0 := (Array.getElem?_eq_some_iff.1 KR.out).1
      replace KR := Lib.hid ((hW.block _ lr0).trans KR.out)
      replace HBs := Lib.hid (low_tr' HBs.out hW HBs.out.size)
      replace HPa := Lib.hid (HP1.out.below HBs.out)
      replace HPb := Lib.hid (HP2.out.below HBs.out)
      clear hW lr0
      clear HL sg0
      go_wp2
      refine region_boxes [⟨11, 12, 11, 24, #[.int .i64 0, .int .i64 0, .int .i64 0], #[.int .i64 M0, .int .i64 M1, .int .i64 M2]⟩] [(72, .int .i64 (n : Int)), (73, .slice (some ⟨g2, 0, none⟩) 3 k2), (74, .pointer (some ⟨g2, 0, none⟩)), (75, ptV d0 d1 d2), (76, .slice (some ⟨g2, 0, none⟩) 3 k2), (77, .pointer (some ⟨g2, 3, none⟩)), (78, ptV e0 e1 e2), (79, .tuple #[ptV M0 M1 M2, .bool uM]), (71, .tuple #[ptV M0 M1 M2, .bool uM]), (80, ptV M0 M1 M2), (81, .bool uM), (12, .bool uM)] (by kernel_rfl) (by kernel_rfl) (by kernel_rfl) (fun aE hpe => ?_)
      simp only [puts, Act.put, List.setIfInBounds_toArray, List.set_cons_zero, List.set_cons_succ] at hpe
      subst hpe
      refine ⟨⟨⟨?_, ?_⟩, trivial⟩, ⟨.inr ?_, .inr ?_, .inr ?_, .inr ?_, .inr ?_, .inr ?_, .inr ?_, .inr ?_, .inr ?_, .inr ?_, .inr ?_, .inl rfl, .inl rfl, .inr ?_, trivial⟩, ?_⟩
      · intro o ho ρ W
        obtain rfl : _ = o := Option.some.inj ho
        simp [execOp, go_sem]
      · intro o ho ρ W g hv hp hg
        obtain rfl : _ = o := Option.some.inj ho
        exact run_store_row (U := #[.int .i64 M0, .int .i64 M1, .int .i64 M2]) 24 (.tmp 11) (.tmp 80) rfl hp (hv 80 (by simp [readsOf, Op.operands]) (by show (80 : Nat) ≠ 11; decide)) hg rfl Try.sizeOf24 (by simp [Value.oneCell'])
      · exact CalmG.mk 72 (.int .i64 (n : Int)) rfl rfl rfl (fun W hW => calm_move (.tmp 0) rfl rfl)
      · exact CalmG.mk 73 (.slice (some ⟨g2, 0, none⟩) 3 k2) rfl rfl rfl (fun W hW => calm_move (.tmp 2) rfl rfl)
      · exact CalmG.mk 74 (.pointer (some ⟨g2, 0, none⟩)) rfl rfl rfl (fun W hW => calm_run (by simp [execOp, Act.eval, go_sem]))
      · exact CalmG.mk 75 (ptV d0 d1 d2) rfl rfl rfl (fun W hW => calm_loadPt 23 (.tmp 74) rfl rfl (cell_below hW (HPb.out 0 (by omega)).1) (cell_below hW (HPb.out 0 (by omega)).2.1) (cell_below hW (HPb.out 0 (by omega)).2.2) Try.sizeOf23 Try.isAgg23)
      · exact CalmG.mk 76 (.slice (some ⟨g2, 0, none⟩) 3 k2) rfl rfl rfl (fun W hW => calm_move (.tmp 2) rfl rfl)
      · exact CalmG.mk 77 (.pointer (some ⟨g2, 3, none⟩)) rfl rfl rfl (fun W hW => calm_run (by simp [execOp, Act.eval, go_sem]))
      · exact CalmG.mk 78 (ptV e0 e1 e2) rfl rfl rfl (fun W hW => calm_loadPt 23 (.tmp 77) rfl rfl (cell_below hW (HPb.out 1 (by omega)).1) (cell_below hW (HPb.out 1 (by omega)).2.1) (cell_below hW (HPb.out 1 (by omega)).2.2) Try.sizeOf23 Try.isAgg23)
      · exact CalmG.mk 79 (.tuple #[ptV M0 M1 M2, .bool uM]) rfl rfl rfl (fun W hW => calm_call 96 _ #[.int .i64 (n : Int), ptV d0 d1 d2, ptV e0 e1 e2] rfl rfl rfl (by simp [Act.eval]) (Try.call96 _ _) (HM.out W))
      · exact CalmG.mk 71 (.tuple #[ptV M0 M1 M2, .bool uM]) rfl rfl rfl (fun W hW => calm_move (.tmp 79) rfl rfl)
      · exact CalmG.mk 80 (ptV M0 M1 M2) rfl rfl rfl (fun W hW => calm_extract (.tmp 71) 0 rfl rfl rfl)
      · exact CalmG.mk 81 (.bool uM) rfl rfl rfl (fun W hW => calm_extract (.tmp 71) 1 rfl rfl rfl)
      · exact CalmG.mk 12 (.bool uM) rfl rfl rfl (fun W hW => calm_assign (.tmp 81) rfl rfl)
      intro g W7 hW hbx _
      obtain ⟨tg0, tk0⟩ := hbx _ (.head _)
      dsimp only at tg0 tk0
      simp only [List.map_cons, List.map_nil, puts, Act.put, List.setIfInBounds_toArray, List.set_cons_zero, List.set_cons_succ]
      clear hbx
      generalize g 11 = tb0 at *
      have lr0 := (Array.getElem?_eq_some_iff.1 KR.out).1
      replace KR := Lib.hid ((hW.block _ lr0).trans KR.out)
      replace HBs := Lib.hid (low_tr' HBs.out hW HBs.out.size)
      replace HPa := Lib.hid (HP1.out.below HBs.out)
      replace HPb := Lib.hid (HP2.out.below HBs.out)
      have lsk0 := (Array.getElem?_eq_some_iff.1 sk0).1
      replace sk0 := (hW.block _ lsk0).trans sk0
      clear lsk0
      clear hW lr0
      clear HM tg0
      go_wp2
      refine wp_loop_rounds 4 ?_
      rw [rounds_succ]; go_wp2
      cases oa0 with
      | true =>
        have lM := (Array.getElem?_eq_some_iff.1 tk0).1
        have lL := (Array.getElem?_eq_some_iff.1 sk0).1
        refine region_calmG [(86, .int .i64 (n : Int)), (87, .slice (some ⟨g1, 0, none⟩) 3 k1), (88, .int .i64 0), (89, .pointer (some ⟨g1, 0, none⟩)), (90, ptV a0 a1 a2), (91, ptV M0 M1 M2), (92, .bool true), (93, .bool true), (94, undef), (95, undef), (96, undef), (97, undef), (98, undef), (99, undef), (100, undef), (101, .bool true)] (by kernel_rfl) (by kernel_rfl) (by kernel_rfl) (fun aE hpe => ?_)
        simp only [puts, Act.put, List.setIfInBounds_toArray, List.set_cons_zero, List.set_cons_succ] at hpe
        subst hpe
        refine ⟨⟨.inr (.inr ?_), .inr (.inr ?_), .inr (.inr ?_), .inr (.inr ?_), .inr (.inr ?_), .inr (.inr ?_), .inr (.inr ?_), .inr (.inr ?_), .inr (.inr ?_), .inr (.inr ?_), .inr (.inr ?_), .inr (.inr ?_), .inr (.inr ?_), .inr (.inr ?_), .inr (.inr ?_), .inr (.inr ?_), trivial⟩, ?_⟩
        · exact CalmG.mk 86 (.int .i64 (n : Int)) rfl rfl rfl (fun W hW => calm_move (.tmp 0) rfl rfl)
        · exact CalmG.mk 87 (.slice (some ⟨g1, 0, none⟩) 3 k1) rfl rfl rfl (fun W hW => calm_move (.tmp 1) rfl rfl)
        · exact CalmG.mk 88 (.int .i64 0) rfl rfl rfl (fun W hW => calm_move (.tmp 13) rfl rfl)
        · exact CalmG.mk 89 (.pointer (some ⟨g1, 0, none⟩)) rfl rfl rfl (fun W hW => calm_run (by simp [execOp, Act.eval, go_sem]))
        · exact CalmG.mk 90 (ptV a0 a1 a2) rfl rfl rfl (fun W hW => calm_loadPt 23 (.tmp 89) rfl rfl (cell_below hW (HPa.out 0 (by omega)).1) (cell_below hW (HPa.out 0 (by omega)).2.1) (cell_below hW (HPa.out 0 (by omega)).2.2) Try.sizeOf23 Try.isAgg23)
        · exact CalmG.mk 91 (ptV M0 M1 M2) rfl rfl rfl (fun W hW => calm_load (cs := #[.int .i64 M0, .int .i64 M1, .int .i64 M2]) (g := tb0) (T := 24) (fr := (0, 0)) 24 (.tmp 11) rfl rfl ((hW.block _ lM).trans tk0) 3 rfl Try.sizeOf24 Try.isAgg24)
        · exact CalmG.mk 92 (.bool true) rfl rfl rfl (fun W hW => calm_call 70 _ #[.int .i64 (n : Int), ptV a0 a1 a2, ptV M0 M1 M2] rfl rfl rfl (by simp [Act.eval]) (Try.call70 _ _) (Hoa0.out W))
        · exact CalmG.mk 93 (.bool true) rfl rfl rfl (fun W hW => calm_move (.tmp 92) rfl rfl)
        · exact CalmG.out 94 rfl rfl rfl
        · exact CalmG.out 95 rfl rfl rfl
        · exact CalmG.out 96 rfl rfl rfl
        · exact CalmG.out 97 rfl rfl rfl
        · exact CalmG.out 98 rfl rfl rfl
        · exact CalmG.out 99 rfl rfl rfl
        · exact CalmG.out 100 rfl rfl rfl
        · exact CalmG.mk 101 (.bool true) rfl rfl rfl (fun W hW => calm_run (by simp [execOp, Act.eval, go_sem]))
        intro W11 hW
        clear lM lL
        have lr0 := (Array.getElem?_eq_some_iff.1 KR.out).1
        replace KR := Lib.hid ((hW.block _ lr0).trans KR.out)
        replace HBs := Lib.hid (low_tr' HBs.out hW HBs.out.size)
        replace HPa := Lib.hid (HP1.out.below HBs.out)
        replace HPb := Lib.hid (HP2.out.below HBs.out)
        have lsk0 := (Array.getElem?_eq_some_iff.1 sk0).1
        replace sk0 := (hW.block _ lsk0).trans sk0
        clear lsk0
        have ltk0 := (Array.getElem?_eq_some_iff.1 tk0).1
        replace tk0 := (hW.block _ ltk0).trans tk0
        clear ltk0
        clear hW lr0
        clear Hoa0 Hob0
        go_wp2_with (first
          | (refine wpList_build _ rfl 24 _ rfl #[.int .i64 0, .int .i64 0, .int .i64 0] (by kernel_rfl) ?_)
          | (refine wpList_store_row _ rfl 24 _ _ rfl rfl (g := w.heap.size) (T := 24) (cs := #[.int .i64 0, .int .i64 0, .int .i64 0]) (U := #[.int .i64 0, .int .i64 0, .int .i64 0]) rfl rfl KR.out rfl Try.sizeOf24 (by simp [Value.oneCell']) ?_))
        obtain rfl := F3.out (by simp)
        exact bodyPost_ret (v := .tuple #[ptV 0 0 0, .int .i64 5]) (results_rowT Try.results54 rfl rfl (setRow_heap _ _ #[.int .i64 0, .int .i64 0, .int .i64 0] _ _ _ KR.out) 3 rfl Try.sizeOf24 Try.isAgg24) rfl ⟨rfl, below_setRowN HBs.out (Nat.le_refl _) _⟩
      | false =>
        cases ob0 with
        | true =>
          have lM := (Array.getElem?_eq_some_iff.1 tk0).1
          have lL := (Array.getElem?_eq_some_iff.1 sk0).1
          refine region_calmG [(86, .int .i64 (n : Int)), (87, .slice (some ⟨g1, 0, none⟩) 3 k1), (88, .int .i64 0), (89, .pointer (some ⟨g1, 0, none⟩)), (90, ptV a0 a1 a2), (91, ptV M0 M1 M2), (92, .bool false), (93, .bool false), (94, .int .i64 (n : Int)), (95, .slice (some ⟨g2, 0, none⟩) 3 k2), (96, .int .i64 0), (97, .pointer (some ⟨g2, 0, none⟩)), (98, ptV d0 d1 d2), (99, ptV L0 L1 L2), (100, .bool true), (101, .bool true)] (by kernel_rfl) (by kernel_rfl) (by kernel_rfl) (fun aE hpe => ?_)
          simp only [puts, Act.put, List.setIfInBounds_toArray, List.set_cons_zero, List.set_cons_succ] at hpe
          subst hpe
          refine ⟨⟨.inr (.inr ?_), .inr (.inr ?_), .inr (.inr ?_), .inr (.inr ?_), .inr (.inr ?_), .inr (.inr ?_), .inr (.inr ?_), .inr (.inr ?_), .inr (.inr ?_), .inr (.inr ?_), .inr (.inr ?_), .inr (.inr ?_), .inr (.inr ?_), .inr (.inr ?_), .inr (.inr ?_), .inr (.inr ?_), trivial⟩, ?_⟩
          · exact CalmG.mk 86 (.int .i64 (n : Int)) rfl rfl rfl (fun W hW => calm_move (.tmp 0) rfl rfl)
          · exact CalmG.mk 87 (.slice (some ⟨g1, 0, none⟩) 3 k1) rfl rfl rfl (fun W hW => calm_move (.tmp 1) rfl rfl)
          · exact CalmG.mk 88 (.int .i64 0) rfl rfl rfl (fun W hW => calm_move (.tmp 13) rfl rfl)
          · exact CalmG.mk 89 (.pointer (some ⟨g1, 0, none⟩)) rfl rfl rfl (fun W hW => calm_run (by simp [execOp, Act.eval, go_sem]))
          · exact CalmG.mk 90 (ptV a0 a1 a2) rfl rfl rfl (fun W hW => calm_loadPt 23 (.tmp 89) rfl rfl (cell_below hW (HPa.out 0 (by omega)).1) (cell_below hW (HPa.out 0 (by omega)).2.1) (cell_below hW (HPa.out 0 (by omega)).2.2) Try.sizeOf23 Try.isAgg23)
          · exact CalmG.mk 91 (ptV M0 M1 M2) rfl rfl rfl (fun W hW => calm_load (cs := #[.int .i64 M0, .int .i64 M1, .int .i64 M2]) (g := tb0) (T := 24) (fr := (0, 0)) 24 (.tmp 11) rfl rfl ((hW.block _ lM).trans tk0) 3 rfl Try.sizeOf24 Try.isAgg24)
          · exact CalmG.mk 92 (.bool false) rfl rfl rfl (fun W hW => calm_call 70 _ #[.int .i64 (n : Int), ptV a0 a1 a2, ptV M0 M1 M2] rfl rfl rfl (by simp [Act.eval]) (Try.call70 _ _) (Hoa0.out W))
          · exact CalmG.mk 93 (.bool false) rfl rfl rfl (fun W hW => calm_move (.tmp 92) rfl rfl)
          · exact CalmG.mk 94 (.int .i64 (n : Int)) rfl rfl rfl (fun W hW => calm_move (.tmp 0) rfl rfl)
          · exact CalmG.mk 95 (.slice (some ⟨g2, 0, none⟩) 3 k2) rfl rfl rfl (fun W hW => calm_move (.tmp 2) rfl rfl)
          · exact CalmG.mk 96 (.int .i64 0) rfl rfl rfl (fun W hW => calm_move (.tmp 13) rfl rfl)
          · exact CalmG.mk 97 (.pointer (some ⟨g2, 0, none⟩)) rfl rfl rfl (fun W hW => calm_run (by simp [execOp, Act.eval, go_sem]))
          · exact CalmG.mk 98 (ptV d0 d1 d2) rfl rfl rfl (fun W hW => calm_loadPt 23 (.tmp 97) rfl rfl (cell_below hW (HPb.out 0 (by omega)).1) (cell_below hW (HPb.out 0 (by omega)).2.1) (cell_below hW (HPb.out 0 (by omega)).2.2) Try.sizeOf23 Try.isAgg23)
          · exact CalmG.mk 99 (ptV L0 L1 L2) rfl rfl rfl (fun W hW => calm_load (cs := #[.int .i64 L0, .int .i64 L1, .int .i64 L2]) (g := sb0) (T := 24) (fr := (0, 0)) 24 (.tmp 9) rfl rfl ((hW.block _ lL).trans sk0) 3 rfl Try.sizeOf24 Try.isAgg24)
          · exact CalmG.mk 100 (.bool true) rfl rfl rfl (fun W hW => calm_call 70 _ #[.int .i64 (n : Int), ptV d0 d1 d2, ptV L0 L1 L2] rfl rfl rfl (by simp [Act.eval]) (Try.call70 _ _) (Hob0.out W))
          · exact CalmG.mk 101 (.bool true) rfl rfl rfl (fun W hW => calm_run (by simp [execOp, Act.eval, go_sem]))
          intro W11 hW
          clear lM lL
          have lr0 := (Array.getElem?_eq_some_iff.1 KR.out).1
          replace KR := Lib.hid ((hW.block _ lr0).trans KR.out)
          replace HBs := Lib.hid (low_tr' HBs.out hW HBs.out.size)
          replace HPa := Lib.hid (HP1.out.below HBs.out)
          replace HPb := Lib.hid (HP2.out.below HBs.out)
          have lsk0 := (Array.getElem?_eq_some_iff.1 sk0).1
          replace sk0 := (hW.block _ lsk0).trans sk0
          clear lsk0
          have ltk0 := (Array.getElem?_eq_some_iff.1 tk0).1
          replace tk0 := (hW.block _ ltk0).trans tk0
          clear ltk0
          clear hW lr0
          clear Hoa0 Hob0
          go_wp2_with (first
            | (refine wpList_build _ rfl 24 _ rfl #[.int .i64 0, .int .i64 0, .int .i64 0] (by kernel_rfl) ?_)
            | (refine wpList_store_row _ rfl 24 _ _ rfl rfl (g := w.heap.size) (T := 24) (cs := #[.int .i64 0, .int .i64 0, .int .i64 0]) (U := #[.int .i64 0, .int .i64 0, .int .i64 0]) rfl rfl KR.out rfl Try.sizeOf24 (by simp [Value.oneCell']) ?_))
          obtain rfl := F3.out (by simp)
          exact bodyPost_ret (v := .tuple #[ptV 0 0 0, .int .i64 5]) (results_rowT Try.results54 rfl rfl (setRow_heap _ _ #[.int .i64 0, .int .i64 0, .int .i64 0] _ _ _ KR.out) 3 rfl Try.sizeOf24 Try.isAgg24) rfl ⟨rfl, below_setRowN HBs.out (Nat.le_refl _) _⟩
        | false =>
          have lM := (Array.getElem?_eq_some_iff.1 tk0).1
          have lL := (Array.getElem?_eq_some_iff.1 sk0).1
          refine region_calmG [(86, .int .i64 (n : Int)), (87, .slice (some ⟨g1, 0, none⟩) 3 k1), (88, .int .i64 0), (89, .pointer (some ⟨g1, 0, none⟩)), (90, ptV a0 a1 a2), (91, ptV M0 M1 M2), (92, .bool false), (93, .bool false), (94, .int .i64 (n : Int)), (95, .slice (some ⟨g2, 0, none⟩) 3 k2), (96, .int .i64 0), (97, .pointer (some ⟨g2, 0, none⟩)), (98, ptV d0 d1 d2), (99, ptV L0 L1 L2), (100, .bool false), (101, .bool false)] (by kernel_rfl) (by kernel_rfl) (by kernel_rfl) (fun aE hpe => ?_)
          simp only [puts, Act.put, List.setIfInBounds_toArray, List.set_cons_zero, List.set_cons_succ] at hpe
          subst hpe
          refine ⟨⟨.inr (.inr ?_), .inr (.inr ?_), .inr (.inr ?_), .inr (.inr ?_), .inr (.inr ?_), .inr (.inr ?_), .inr (.inr ?_), .inr (.inr ?_), .inr (.inr ?_), .inr (.inr ?_), .inr (.inr ?_), .inr (.inr ?_), .inr (.inr ?_), .inr (.inr ?_), .inr (.inr ?_), .inr (.inr ?_), trivial⟩, ?_⟩
          · exact CalmG.mk 86 (.int .i64 (n : Int)) rfl rfl rfl (fun W hW => calm_move (.tmp 0) rfl rfl)
          · exact CalmG.mk 87 (.slice (some ⟨g1, 0, none⟩) 3 k1) rfl rfl rfl (fun W hW => calm_move (.tmp 1) rfl rfl)
          · exact CalmG.mk 88 (.int .i64 0) rfl rfl rfl (fun W hW => calm_move (.tmp 13) rfl rfl)
          · exact CalmG.mk 89 (.pointer (some ⟨g1, 0, none⟩)) rfl rfl rfl (fun W hW => calm_run (by simp [execOp, Act.eval, go_sem]))
          · exact CalmG.mk 90 (ptV a0 a1 a2) rfl rfl rfl (fun W hW => calm_loadPt 23 (.tmp 89) rfl rfl (cell_below hW (HPa.out 0 (by omega)).1) (cell_below hW (HPa.out 0 (by omega)).2.1) (cell_below hW (HPa.out 0 (by omega)).2.2) Try.sizeOf23 Try.isAgg23)
          · exact CalmG.mk 91 (ptV M0 M1 M2) rfl rfl rfl (fun W hW => calm_load (cs := #[.int .i64 M0, .int .i64 M1, .int .i64 M2]) (g := tb0) (T := 24) (fr := (0, 0)) 24 (.tmp 11) rfl rfl ((hW.block _ lM).trans tk0) 3 rfl Try.sizeOf24 Try.isAgg24)
          · exact CalmG.mk 92 (.bool false) rfl rfl rfl (fun W hW => calm_call 70 _ #[.int .i64 (n : Int), ptV a0 a1 a2, ptV M0 M1 M2] rfl rfl rfl (by simp [Act.eval]) (Try.call70 _ _) (Hoa0.out W))
          · exact CalmG.mk 93 (.bool false) rfl rfl rfl (fun W hW => calm_move (.tmp 92) rfl rfl)
          · exact CalmG.mk 94 (.int .i64 (n : Int)) rfl rfl rfl (fun W hW => calm_move (.tmp 0) rfl rfl)
          · exact CalmG.mk 95 (.slice (some ⟨g2, 0, none⟩) 3 k2) rfl rfl rfl (fun W hW => calm_move (.tmp 2) rfl rfl)
          · exact CalmG.mk 96 (.int .i64 0) rfl rfl rfl (fun W hW => calm_move (.tmp 13) rfl rfl)
          · exact CalmG.mk 97 (.pointer (some ⟨g2, 0, none⟩)) rfl rfl rfl (fun W hW => calm_run (by simp [execOp, Act.eval, go_sem]))
          · exact CalmG.mk 98 (ptV d0 d1 d2) rfl rfl rfl (fun W hW => calm_loadPt 23 (.tmp 97) rfl rfl (cell_below hW (HPb.out 0 (by omega)).1) (cell_below hW (HPb.out 0 (by omega)).2.1) (cell_below hW (HPb.out 0 (by omega)).2.2) Try.sizeOf23 Try.isAgg23)
          · exact CalmG.mk 99 (ptV L0 L1 L2) rfl rfl rfl (fun W hW => calm_load (cs := #[.int .i64 L0, .int .i64 L1, .int .i64 L2]) (g := sb0) (T := 24) (fr := (0, 0)) 24 (.tmp 9) rfl rfl ((hW.block _ lL).trans sk0) 3 rfl Try.sizeOf24 Try.isAgg24)
          · exact CalmG.mk 100 (.bool false) rfl rfl rfl (fun W hW => calm_call 70 _ #[.int .i64 (n : Int), ptV d0 d1 d2, ptV L0 L1 L2] rfl rfl rfl (by simp [Act.eval]) (Try.call70 _ _) (Hob0.out W))
          · exact CalmG.mk 101 (.bool false) rfl rfl rfl (fun W hW => calm_run (by simp [execOp, Act.eval, go_sem]))
          intro W11 hW
          clear lM lL
          have lr0 := (Array.getElem?_eq_some_iff.1 KR.out).1
          replace KR := Lib.hid ((hW.block _ lr0).trans KR.out)
          replace HBs := Lib.hid (low_tr' HBs.out hW HBs.out.size)
          replace HPa := Lib.hid (HP1.out.below HBs.out)
          replace HPb := Lib.hid (HP2.out.below HBs.out)
          have lsk0 := (Array.getElem?_eq_some_iff.1 sk0).1
          replace sk0 := (hW.block _ lsk0).trans sk0
          clear lsk0
          have ltk0 := (Array.getElem?_eq_some_iff.1 tk0).1
          replace tk0 := (hW.block _ ltk0).trans tk0
          clear ltk0
          clear hW lr0
          clear Hoa0 Hob0
          go_wp2
          rw [rounds_succ]; go_wp2
          cases oa1 with
          | true =>
            have lM := (Array.getElem?_eq_some_iff.1 tk0).1
            have lL := (Array.getElem?_eq_some_iff.1 sk0).1
            refine region_calmG [(86, .int .i64 (n : Int)), (87, .slice (some ⟨g1, 0, none⟩) 3 k1), (88, .int .i64 1), (89, .pointer (some ⟨g1, 3, none⟩)), (90, ptV b0 b1 b2), (91, ptV M0 M1 M2), (92, .bool true), (93, .bool true), (94, undef), (95, undef), (96, undef), (97, undef), (98, undef), (99, undef), (100, undef), (101, .bool true)] (by kernel_rfl) (by kernel_rfl) (by kernel_rfl) (fun aE hpe => ?_)
            simp only [puts, Act.put, List.setIfInBounds_toArray, List.set_cons_zero, List.set_cons_succ] at hpe
            subst hpe
            refine ⟨⟨.inr (.inr ?_), .inr (.inr ?_), .inr (.inr ?_), .inr (.inr ?_), .inr (.inr ?_), .inr (.inr ?_), .inr (.inr ?_), .inr (.inr ?_), .inr (.inr ?_), .inr (.inr ?_), .inr (.inr ?_), .inr (.inr ?_), .inr (.inr ?_), .inr (.inr ?_), .inr (.inr ?_), .inr (.inr ?_), trivial⟩, ?_⟩
            · exact CalmG.mk 86 (.int .i64 (n : Int)) rfl rfl rfl (fun W hW => calm_move (.tmp 0) rfl rfl)
            · exact CalmG.mk 87 (.slice (some ⟨g1, 0, none⟩) 3 k1) rfl rfl rfl (fun W hW => calm_move (.tmp 1) rfl rfl)
            · exact CalmG.mk 88 (.int .i64 1) rfl rfl rfl (fun W hW => calm_move (.tmp 13) rfl rfl)
            · exact CalmG.mk 89 (.pointer (some ⟨g1, 3, none⟩)) rfl rfl rfl (fun W hW => calm_run (by simp [execOp, Act.eval, go_sem]))
            · exact CalmG.mk 90 (ptV b0 b1 b2) rfl rfl rfl (fun W hW => calm_loadPt 23 (.tmp 89) rfl rfl (cell_below hW (HPa.out 1 (by omega)).1) (cell_below hW (HPa.out 1 (by omega)).2.1) (cell_below hW (HPa.out 1 (by omega)).2.2) Try.sizeOf23 Try.isAgg23)
            · exact CalmG.mk 91 (ptV M0 M1 M2) rfl rfl rfl (fun W hW => calm_load (cs := #[.int .i64 M0, .int .i64 M1, .int .i64 M2]) (g := tb0) (T := 24) (fr := (0, 0)) 24 (.tmp 11) rfl rfl ((hW.block _ lM).trans tk0) 3 rfl Try.sizeOf24 Try.isAgg24)
            · exact CalmG.mk 92 (.bool true) rfl rfl rfl (fun W hW => calm_call 70 _ #[.int .i64 (n : Int), ptV b0 b1 b2, ptV M0 M1 M2] rfl rfl rfl (by simp [Act.eval]) (Try.call70 _ _) (Hoa1.out W))
            · exact CalmG.mk 93 (.bool true) rfl rfl rfl (fun W hW => calm_move (.tmp 92) rfl rfl)
            · exact CalmG.out 94 rfl rfl rfl
            · exact CalmG.out 95 rfl rfl rfl
            · exact CalmG.out 96 rfl rfl rfl
            · exact CalmG.out 97 rfl rfl rfl
            · exact CalmG.out 98 rfl rfl rfl
            · exact CalmG.out 99 rfl rfl rfl
            · exact CalmG.out 100 rfl rfl rfl
            · exact CalmG.mk 101 (.bool true) rfl rfl rfl (fun W hW => calm_run (by simp [execOp, Act.eval, go_sem]))
            intro W11 hW
            clear lM lL
            have lr0 := (Array.getElem?_eq_some_iff.1 KR.out).1
            replace KR := Lib.hid ((hW.block _ lr0).trans KR.out)
            replace HBs := Lib.hid (low_tr' HBs.out hW HBs.out.size)
            replace HPa := Lib.hid (HP1.out.below HBs.out)
            replace HPb := Lib.hid (HP2.out.below HBs.out)
            have lsk0 := (Array.getElem?_eq_some_iff.1 sk0).1
            replace sk0 := (hW.block _ lsk0).trans sk0
            clear lsk0
            have ltk0 := (Array.getElem?_eq_some_iff.1 tk0).1
            replace tk0 := (hW.block _ ltk0).trans tk0
            clear ltk0
            clear hW lr0
            clear Hoa1 Hob1
            go_wp2_with (first
              | (refine wpList_build _ rfl 24 _ rfl #[.int .i64 0, .int .i64 0, .int .i64 0] (by kernel_rfl) ?_)
              | (refine wpList_store_row _ rfl 24 _ _ rfl rfl (g := w.heap.size) (T := 24) (cs := #[.int .i64 0, .int .i64 0, .int .i64 0]) (U := #[.int .i64 0, .int .i64 0, .int .i64 0]) rfl rfl KR.out rfl Try.sizeOf24 (by simp [Value.oneCell']) ?_))
            obtain rfl := F3.out (by simp)
            exact bodyPost_ret (v := .tuple #[ptV 0 0 0, .int .i64 5]) (results_rowT Try.results54 rfl rfl (setRow_heap _ _ #[.int .i64 0, .int .i64 0, .int .i64 0] _ _ _ KR.out) 3 rfl Try.sizeOf24 Try.isAgg24) rfl ⟨rfl, below_setRowN HBs.out (Nat.le_refl _) _⟩
          | false =>
            cases ob1 with
            | true =>
              have lM := (Array.getElem?_eq_some_iff.1 tk0).1
              have lL := (Array.getElem?_eq_some_iff.1 sk0).1
              refine region_calmG [(86, .int .i64 (n : Int)), (87, .slice (some ⟨g1, 0, none⟩) 3 k1), (88, .int .i64 1), (89, .pointer (some ⟨g1, 3, none⟩)), (90, ptV b0 b1 b2), (91, ptV M0 M1 M2), (92, .bool false), (93, .bool false), (94, .int .i64 (n : Int)), (95, .slice (some ⟨g2, 0, none⟩) 3 k2), (96, .int .i64 1), (97, .pointer (some ⟨g2, 3, none⟩)), (98, ptV e0 e1 e2), (99, ptV L0 L1 L2), (100, .bool true), (101, .bool true)] (by kernel_rfl) (by kernel_rfl) (by kernel_rfl) (fun aE hpe => ?_)
              simp only [puts, Act.put, List.setIfInBounds_toArray, List.set_cons_zero, List.set_cons_succ] at hpe
              subst hpe
              refine ⟨⟨.inr (.inr ?_), .inr (.inr ?_), .inr (.inr ?_), .inr (.inr ?_), .inr (.inr ?_), .inr (.inr ?_), .inr (.inr ?_), .inr (.inr ?_), .inr (.inr ?_), .inr (.inr ?_), .inr (.inr ?_), .inr (.inr ?_), .inr (.inr ?_), .inr (.inr ?_), .inr (.inr ?_), .inr (.inr ?_), trivial⟩, ?_⟩
              · exact CalmG.mk 86 (.int .i64 (n : Int)) rfl rfl rfl (fun W hW => calm_move (.tmp 0) rfl rfl)
              · exact CalmG.mk 87 (.slice (some ⟨g1, 0, none⟩) 3 k1) rfl rfl rfl (fun W hW => calm_move (.tmp 1) rfl rfl)
              · exact CalmG.mk 88 (.int .i64 1) rfl rfl rfl (fun W hW => calm_move (.tmp 13) rfl rfl)
              · exact CalmG.mk 89 (.pointer (some ⟨g1, 3, none⟩)) rfl rfl rfl (fun W hW => calm_run (by simp [execOp, Act.eval, go_sem]))
              · exact CalmG.mk 90 (ptV b0 b1 b2) rfl rfl rfl (fun W hW => calm_loadPt 23 (.tmp 89) rfl rfl (cell_below hW (HPa.out 1 (by omega)).1) (cell_below hW (HPa.out 1 (by omega)).2.1) (cell_below hW (HPa.out 1 (by omega)).2.2) Try.sizeOf23 Try.isAgg23)
              · exact CalmG.mk 91 (ptV M0 M1 M2) rfl rfl rfl (fun W hW => calm_load (cs := #[.int .i64 M0, .int .i64 M1, .int .i64 M2]) (g := tb0) (T := 24) (fr := (0, 0)) 24 (.tmp 11) rfl rfl ((hW.block _ lM).trans tk0) 3 rfl Try.sizeOf24 Try.isAgg24)
              · exact CalmG.mk 92 (.bool false) rfl rfl rfl (fun W hW => calm_call 70 _ #[.int .i64 (n : Int), ptV b0 b1 b2, ptV M0 M1 M2] rfl rfl rfl (by simp [Act.eval]) (Try.call70 _ _) (Hoa1.out W))
              · exact CalmG.mk 93 (.bool false) rfl rfl rfl (fun W hW => calm_move (.tmp 92) rfl rfl)
              · exact CalmG.mk 94 (.int .i64 (n : Int)) rfl rfl rfl (fun W hW => calm_move (.tmp 0) rfl rfl)
              · exact CalmG.mk 95 (.slice (some ⟨g2, 0, none⟩) 3 k2) rfl rfl rfl (fun W hW => calm_move (.tmp 2) rfl rfl)
              · exact CalmG.mk 96 (.int .i64 1) rfl rfl rfl (fun W hW => calm_move (.tmp 13) rfl rfl)
              · exact CalmG.mk 97 (.pointer (some ⟨g2, 3, none⟩)) rfl rfl rfl (fun W hW => calm_run (by simp [execOp, Act.eval, go_sem]))
              · exact CalmG.mk 98 (ptV e0 e1 e2) rfl rfl rfl (fun W hW => calm_loadPt 23 (.tmp 97) rfl rfl (cell_below hW (HPb.out 1 (by omega)).1) (cell_below hW (HPb.out 1 (by omega)).2.1) (cell_below hW (HPb.out 1 (by omega)).2.2) Try.sizeOf23 Try.isAgg23)
              · exact CalmG.mk 99 (ptV L0 L1 L2) rfl rfl rfl (fun W hW => calm_load (cs := #[.int .i64 L0, .int .i64 L1, .int .i64 L2]) (g := sb0) (T := 24) (fr := (0, 0)) 24 (.tmp 9) rfl rfl ((hW.block _ lL).trans sk0) 3 rfl Try.sizeOf24 Try.isAgg24)
              · exact CalmG.mk 100 (.bool true) rfl rfl rfl (fun W hW => calm_call 70 _ #[.int .i64 (n : Int), ptV e0 e1 e2, ptV L0 L1 L2] rfl rfl rfl (by simp [Act.eval]) (Try.call70 _ _) (Hob1.out W))
              · exact CalmG.mk 101 (.bool true) rfl rfl rfl (fun W hW => calm_run (by simp [execOp, Act.eval, go_sem]))
              intro W11 hW
              clear lM lL
              have lr0 := (Array.getElem?_eq_some_iff.1 KR.out).1
              replace KR := Lib.hid ((hW.block _ lr0).trans KR.out)
              replace HBs := Lib.hid (low_tr' HBs.out hW HBs.out.size)
              replace HPa := Lib.hid (HP1.out.below HBs.out)
              replace HPb := Lib.hid (HP2.out.below HBs.out)
              have lsk0 := (Array.getElem?_eq_some_iff.1 sk0).1
              replace sk0 := (hW.block _ lsk0).trans sk0
              clear lsk0
              have ltk0 := (Array.getElem?_eq_some_iff.1 tk0).1
              replace tk0 := (hW.block _ ltk0).trans tk0
              clear ltk0
              clear hW lr0
              clear Hoa1 Hob1
              go_wp2_with (first
                | (refine wpList_build _ rfl 24 _ rfl #[.int .i64 0, .int .i64 0, .int .i64 0] (by kernel_rfl) ?_)
                | (refine wpList_store_row _ rfl 24 _ _ rfl rfl (g := w.heap.size) (T := 24) (cs := #[.int .i64 0, .int .i64 0, .int .i64 0]) (U := #[.int .i64 0, .int .i64 0, .int .i64 0]) rfl rfl KR.out rfl Try.sizeOf24 (by simp [Value.oneCell']) ?_))
              obtain rfl := F3.out (by simp)
              exact bodyPost_ret (v := .tuple #[ptV 0 0 0, .int .i64 5]) (results_rowT Try.results54 rfl rfl (setRow_heap _ _ #[.int .i64 0, .int .i64 0, .int .i64 0] _ _ _ KR.out) 3 rfl Try.sizeOf24 Try.isAgg24) rfl ⟨rfl, below_setRowN HBs.out (Nat.le_refl _) _⟩
            | false =>
              have lM := (Array.getElem?_eq_some_iff.1 tk0).1
              have lL := (Array.getElem?_eq_some_iff.1 sk0).1
              refine region_calmG [(86, .int .i64 (n : Int)), (87, .slice (some ⟨g1, 0, none⟩) 3 k1), (88, .int .i64 1), (89, .pointer (some ⟨g1, 3, none⟩)), (90, ptV b0 b1 b2), (91, ptV M0 M1 M2), (92, .bool false), (93, .bool false), (94, .int .i64 (n : Int)), (95, .slice (some ⟨g2, 0, none⟩) 3 k2), (96, .int .i64 1), (97, .pointer (some ⟨g2, 3, none⟩)), (98, ptV e0 e1 e2), (99, ptV L0 L1 L2), (100, .bool false), (101, .bool false)] (by kernel_rfl) (by kernel_rfl) (by kernel_rfl) (fun aE hpe => ?_)
              simp only [puts, Act.put, List.setIfInBounds_toArray, List.set_cons_zero, List.set_cons_succ] at hpe
              subst hpe
              refine ⟨⟨.inr (.inr ?_), .inr (.inr ?_), .inr (.inr ?_), .inr (.inr ?_), .inr (.inr ?_), .inr (.inr ?_), .inr (.inr ?_), .inr (.inr ?_), .inr (.inr ?_), .inr (.inr ?_), .inr (.inr ?_), .inr (.inr ?_), .inr (.inr ?_), .inr (.inr ?_), .inr (.inr ?_), .inr (.inr ?_), trivial⟩, ?_⟩
              · exact CalmG.mk 86 (.int .i64 (n : Int)) rfl rfl rfl (fun W hW => calm_move (.tmp 0) rfl rfl)
              · exact CalmG.mk 87 (.slice (some ⟨g1, 0, none⟩) 3 k1) rfl rfl rfl (fun W hW => calm_move (.tmp 1) rfl rfl)
              · exact CalmG.mk 88 (.int .i64 1) rfl rfl rfl (fun W hW => calm_move (.tmp 13) rfl rfl)
              · exact CalmG.mk 89 (.pointer (some ⟨g1, 3, none⟩)) rfl rfl rfl (fun W hW => calm_run (by simp [execOp, Act.eval, go_sem]))
              · exact CalmG.mk 90 (ptV b0 b1 b2) rfl rfl rfl (fun W hW => calm_loadPt 23 (.tmp 89) rfl rfl (cell_below hW (HPa.out 1 (by omega)).1) (cell_below hW (HPa.out 1 (by omega)).2.1) (cell_below hW (HPa.out 1 (by omega)).2.2) Try.sizeOf23 Try.isAgg23)
              · exact CalmG.mk 91 (ptV M0 M1 M2) rfl rfl rfl (fun W hW => calm_load (cs := #[.int .i64 M0, .int .i64 M1, .int .i64 M2]) (g := tb0) (T := 24) (fr := (0, 0)) 24 (.tmp 11) rfl rfl ((hW.block _ lM).trans tk0) 3 rfl Try.sizeOf24 Try.isAgg24)
              · exact CalmG.mk 92 (.bool false) rfl rfl rfl (fun W hW => calm_call 70 _ #[.int .i64 (n : Int), ptV b0 b1 b2, ptV M0 M1 M2] rfl rfl rfl (by simp [Act.eval]) (Try.call70 _ _) (Hoa1.out W))
              · exact CalmG.mk 93 (.bool false) rfl rfl rfl (fun W hW => calm_move (.tmp 92) rfl rfl)
              · exact CalmG.mk 94 (.int .i64 (n : Int)) rfl rfl rfl (fun W hW => calm_move (.tmp 0) rfl rfl)
              · exact CalmG.mk 95 (.slice (some ⟨g2, 0, none⟩) 3 k2) rfl rfl rfl (fun W hW => calm_move (.tmp 2) rfl rfl)
              · exact CalmG.mk 96 (.int .i64 1) rfl rfl rfl (fun W hW => calm_move (.tmp 13) rfl rfl)
              · exact CalmG.mk 97 (.pointer (some ⟨g2, 3, none⟩)) rfl rfl rfl (fun W hW => calm_run (by simp [execOp, Act.eval, go_sem]))
              · exact CalmG.mk 98 (ptV e0 e1 e2) rfl rfl rfl (fun W hW => calm_loadPt 23 (.tmp 97) rfl rfl (cell_below hW (HPb.out 1 (by omega)).1) (cell_below hW (HPb.out 1 (by omega)).2.1) (cell_below hW (HPb.out 1 (by omega)).2.2) Try.sizeOf23 Try.isAgg23)
              · exact CalmG.mk 99 (ptV L0 L1 L2) rfl rfl rfl (fun W hW => calm_load (cs := #[.int .i64 L0, .int .i64 L1, .int .i64 L2]) (g := sb0) (T := 24) (fr := (0, 0)) 24 (.tmp 9) rfl rfl ((hW.block _ lL).trans sk0) 3 rfl Try.sizeOf24 Try.isAgg24)
              · exact CalmG.mk 100 (.bool false) rfl rfl rfl (fun W hW => calm_call 70 _ #[.int .i64 (n : Int), ptV e0 e1 e2, ptV L0 L1 L2] rfl rfl rfl (by simp [Act.eval]) (Try.call70 _ _) (Hob1.out W))
              · exact CalmG.mk 101 (.bool false) rfl rfl rfl (fun W hW => calm_run (by simp [execOp, Act.eval, go_sem]))
              intro W11 hW
              clear lM lL
              have lr0 := (Array.getElem?_eq_some_iff.1 KR.out).1
              replace KR := Lib.hid ((hW.block _ lr0).trans KR.out)
              replace HBs := Lib.hid (low_tr' HBs.out hW HBs.out.size)
              replace HPa := Lib.hid (HP1.out.below HBs.out)
              replace HPb := Lib.hid (HP2.out.below HBs.out)
              have lsk0 := (Array.getElem?_eq_some_iff.1 sk0).1
              replace sk0 := (hW.block _ lsk0).trans sk0
              clear lsk0
              have ltk0 := (Array.getElem?_eq_some_iff.1 tk0).1
              replace tk0 := (hW.block _ ltk0).trans tk0
              clear ltk0
              clear hW lr0
              clear Hoa1 Hob1
              go_wp2
              rw [rounds_succ]; go_wp2
              cases oa2 with
              | true =>
                have lM := (Array.getElem?_eq_some_iff.1 tk0).1
                have lL := (Array.getElem?_eq_some_iff.1 sk0).1
                refine region_calmG [(86, .int .i64 (n : Int)), (87, .slice (some ⟨g1, 0, none⟩) 3 k1), (88, .int .i64 2), (89, .pointer (some ⟨g1, 6, none⟩)), (90, ptV c0 c1 c2), (91, ptV M0 M1 M2), (92, .bool true), (93, .bool true), (94, undef), (95, undef), (96, undef), (97, undef), (98, undef), (99, undef), (100, undef), (101, .bool true)] (by kernel_rfl) (by kernel_rfl) (by kernel_rfl) (fun aE hpe => ?_)
                simp only [puts, Act.put, List.setIfInBounds_toArray, List.set_cons_zero, List.set_cons_succ] at hpe
                subst hpe
                refine ⟨⟨.inr (.inr ?_), .inr (.inr ?_), .inr (.inr ?_), .inr (.inr ?_), .inr (.inr ?_), .inr (.inr ?_), .inr (.inr ?_), .inr (.inr ?_), .inr (.inr ?_), .inr (.inr ?_), .inr (.inr ?_), .inr (.inr ?_), .inr (.inr ?_), .inr (.inr ?_), .inr (.inr ?_), .inr (.inr ?_), trivial⟩, ?_⟩
                · exact CalmG.mk 86 (.int .i64 (n : Int)) rfl rfl rfl (fun W hW => calm_move (.tmp 0) rfl rfl)
                · exact CalmG.mk 87 (.slice (some ⟨g1, 0, none⟩) 3 k1) rfl rfl rfl (fun W hW => calm_move (.tmp 1) rfl rfl)
                · exact CalmG.mk 88 (.int .i64 2) rfl rfl rfl (fun W hW => calm_move (.tmp 13) rfl rfl)
                · exact CalmG.mk 89 (.pointer (some ⟨g1, 6, none⟩)) rfl rfl rfl (fun W hW => calm_run (by simp [execOp, Act.eval, go_sem]))
                · exact CalmG.mk 90 (ptV c0 c1 c2) rfl rfl rfl (fun W hW => calm_loadPt 23 (.tmp 89) rfl rfl (cell_below hW (HPa.out 2 (by omega)).1) (cell_below hW (HPa.out 2 (by omega)).2.1) (cell_below hW (HPa.out 2 (by omega)).2.2) Try.sizeOf23 Try.isAgg23)
                · exact CalmG.mk 91 (ptV M0 M1 M2) rfl rfl rfl (fun W hW => calm_load (cs := #[.int .i64 M0, .int .i64 M1, .int .i64 M2]) (g := tb0) (T := 24) (fr := (0, 0)) 24 (.tmp 11) rfl rfl ((hW.block _ lM).trans tk0) 3 rfl Try.sizeOf24 Try.isAgg24)
                · exact CalmG.mk 92 (.bool true) rfl rfl rfl (fun W hW => calm_call 70 _ #[.int .i64 (n : Int), ptV c0 c1 c2, ptV M0 M1 M2] rfl rfl rfl (by simp [Act.eval]) (Try.call70 _ _) (Hoa2.out W))
                · exact CalmG.mk 93 (.bool true) rfl rfl rfl (fun W hW => calm_move (.tmp 92) rfl rfl)
                · exact CalmG.out 94 rfl rfl rfl
                · exact CalmG.out 95 rfl rfl rfl
                · exact CalmG.out 96 rfl rfl rfl
                · exact CalmG.out 97 rfl rfl rfl
                · exact CalmG.out 98 rfl rfl rfl
                · exact CalmG.out 99 rfl rfl rfl
                · exact CalmG.out 100 rfl rfl rfl
                · exact CalmG.mk 101 (.bool true) rfl rfl rfl (fun W hW => calm_run (by simp [execOp, Act.eval, go_sem]))
                intro W11 hW
                clear lM lL
                have lr0 := (Array.getElem?_eq_some_iff.1 KR.out).1
                replace KR := Lib.hid ((hW.block _ lr0).trans KR.out)
                replace HBs := Lib.hid (low_tr' HBs.out hW HBs.out.size)
                replace HPa := Lib.hid (HP1.out.below HBs.out)
                replace HPb := Lib.hid (HP2.out.below HBs.out)
                have lsk0 := (Array.getElem?_eq_some_iff.1 sk0).1
                replace sk0 := (hW.block _ lsk0).trans sk0
                clear lsk0
                have ltk0 := (Array.getElem?_eq_some_iff.1 tk0).1
                replace tk0 := (hW.block _ ltk0).trans tk0
                clear ltk0
                clear hW lr0
                clear Hoa2 Hob2
                go_wp2_with (first
                  | (refine wpList_build _ rfl 24 _ rfl #[.int .i64 0, .int .i64 0, .int .i64 0] (by kernel_rfl) ?_)
                  | (refine wpList_store_row _ rfl 24 _ _ rfl rfl (g := w.heap.size) (T := 24) (cs := #[.int .i64 0, .int .i64 0, .int .i64 0]) (U := #[.int .i64 0, .int .i64 0, .int .i64 0]) rfl rfl KR.out rfl Try.sizeOf24 (by simp [Value.oneCell']) ?_))
                obtain rfl := F3.out (by simp)
                exact bodyPost_ret (v := .tuple #[ptV 0 0 0, .int .i64 5]) (results_rowT Try.results54 rfl rfl (setRow_heap _ _ #[.int .i64 0, .int .i64 0, .int .i64 0] _ _ _ KR.out) 3 rfl Try.sizeOf24 Try.isAgg24) rfl ⟨rfl, below_setRowN HBs.out (Nat.le_refl _) _⟩
              | false =>
                cases ob2 with
                | true =>
                  have lM := (Array.getElem?_eq_some_iff.1 tk0).1
                  have lL := (Array.getElem?_eq_some_iff.1 sk0).1
                  refine region_calmG [(86, .int .i64 (n : Int)), (87, .slice (some ⟨g1, 0, none⟩) 3 k1), (88, .int .i64 2), (89, .pointer (some ⟨g1, 6, none⟩)), (90, ptV c0 c1 c2), (91, ptV M0 M1 M2), (92, .bool false), (93, .bool false), (94, .int .i64 (n : Int)), (95, .slice (some ⟨g2, 0, none⟩) 3 k2), (96, .int .i64 2), (97, .pointer (some ⟨g2, 6, none⟩)), (98, ptV f0 f1 f2), (99, ptV L0 L1 L2), (100, .bool true), (101, .bool true)] (by kernel_rfl) (by kernel_rfl) (by kernel_rfl) (fun aE hpe => ?_)
                  simp only [puts, Act.put, List.setIfInBounds_toArray, List.set_cons_zero, List.set_cons_succ] at hpe
                  subst hpe
                  refine ⟨⟨.inr (.inr ?_), .inr (.inr ?_), .inr (.inr ?_), .inr (.inr ?_), .inr (.inr ?_), .inr (.inr ?_), .inr (.inr ?_), .inr (.inr ?_), .inr (.inr ?_), .inr (.inr ?_), .inr (.inr ?_), .inr (.inr ?_), .inr (.inr ?_), .inr (.inr ?_), .inr (.inr ?_), .inr (.inr ?_), trivial⟩, ?_⟩
                  · exact CalmG.mk 86 (.int .i64 (n : Int)) rfl rfl rfl (fun W hW => calm_move (.tmp 0) rfl rfl)
                  · exact CalmG.mk 87 (.slice (some ⟨g1, 0, none⟩) 3 k1) rfl rfl rfl (fun W hW => calm_move (.tmp 1) rfl rfl)
                  · exact CalmG.mk 88 (.int .i64 2) rfl rfl rfl (fun W hW => calm_move (.tmp 13) rfl rfl)
                  · exact CalmG.mk 89 (.pointer (some ⟨g1, 6, none⟩)) rfl rfl rfl (fun W hW => calm_run (by simp [execOp, Act.eval, go_sem]))
                  · exact CalmG.mk 90 (ptV c0 c1 c2) rfl rfl rfl (fun W hW => calm_loadPt 23 (.tmp 89) rfl rfl (cell_below hW (HPa.out 2 (by omega)).1) (cell_below hW (HPa.out 2 (by omega)).2.1) (cell_below hW (HPa.out 2 (by omega)).2.2) Try.sizeOf23 Try.isAgg23)
                  · exact CalmG.mk 91 (ptV M0 M1 M2) rfl rfl rfl (fun W hW => calm_load (cs := #[.int .i64 M0, .int .i64 M1, .int .i64 M2]) (g := tb0) (T := 24) (fr := (0, 0)) 24 (.tmp 11) rfl rfl ((hW.block _ lM).trans tk0) 3 rfl Try.sizeOf24 Try.isAgg24)
                  · exact CalmG.mk 92 (.bool false) rfl rfl rfl (fun W hW => calm_call 70 _ #[.int .i64 (n : Int), ptV c0 c1 c2, ptV M0 M1 M2] rfl rfl rfl (by simp [Act.eval]) (Try.call70 _ _) (Hoa2.out W))
                  · exact CalmG.mk 93 (.bool false) rfl rfl rfl (fun W hW => calm_move (.tmp 92) rfl rfl)
                  · exact CalmG.mk 94 (.int .i64 (n : Int)) rfl rfl rfl (fun W hW => calm_move (.tmp 0) rfl rfl)
                  · exact CalmG.mk 95 (.slice (some ⟨g2, 0, none⟩) 3 k2) rfl rfl rfl (fun W hW => calm_move (.tmp 2) rfl rfl)
                  · exact CalmG.mk 96 (.int .i64 2) rfl rfl rfl (fun W hW => calm_move (.tmp 13) rfl rfl)
                  · exact CalmG.mk 97 (.pointer (some ⟨g2, 6, none⟩)) rfl rfl rfl (fun W hW => calm_run (by simp [execOp, Act.eval, go_sem]))
                  · exact CalmG.mk 98 (ptV f0 f1 f2) rfl rfl rfl (fun W hW => calm_loadPt 23 (.tmp 97) rfl rfl (cell_below hW (HPb.out 2 (by omega)).1) (cell_below hW (HPb.out 2 (by omega)).2.1) (cell_below hW (HPb.out 2 (by omega)).2.2) Try.sizeOf23 Try.isAgg23)
                  · exact CalmG.mk 99 (ptV L0 L1 L2) rfl rfl rfl (fun W hW => calm_load (cs := #[.int .i64 L0, .int .i64 L1, .int .i64 L2]) (g := sb0) (T := 24) (fr := (0, 0)) 24 (.tmp 9) rfl rfl ((hW.block _ lL).trans sk0) 3 rfl Try.sizeOf24 Try.isAgg24)
                  · exact CalmG.mk 100 (.bool true) rfl rfl rfl (fun W hW => calm_call 70 _ #[.int .i64 (n : Int), ptV f0 f1 f2, ptV L0 L1 L2] rfl rfl rfl (by simp [Act.eval]) (Try.call70 _ _) (Hob2.out W))
                  · exact CalmG.mk 101 (.bool true) rfl rfl rfl (fun W hW => calm_run (by simp [execOp, Act.eval, go_sem]))
                  intro W11 hW
                  clear lM lL
                  have lr0 := (Array.getElem?_eq_some_iff.1 KR.out).1
                  replace KR := Lib.hid ((hW.block _ lr0).trans KR.out)
                  replace HBs := Lib.hid (low_tr' HBs.out hW HBs.out.size)
                  replace HPa := Lib.hid (HP1.out.below HBs.out)
                  replace HPb := Lib.hid (HP2.out.below HBs.out)
                  have lsk0 := (Array.getElem?_eq_some_iff.1 sk0).1
                  replace sk0 := (hW.block _ lsk0).trans sk0
                  clear lsk0
                  have ltk0 := (Array.getElem?_eq_some_iff.1 tk0).1
                  replace tk0 := (hW.block _ ltk0).trans tk0
                  clear ltk0
                  clear hW lr0
                  clear Hoa2 Hob2
                  go_wp2_with (first
                    | (refine wpList_build _ rfl 24 _ rfl #[.int .i64 0, .int .i64 0, .int .i64 0] (by kernel_rfl) ?_)
                    | (refine wpList_store_row _ rfl 24 _ _ rfl rfl (g := w.heap.size) (T := 24) (cs := #[.int .i64 0, .int .i64 0, .int .i64 0]) (U := #[.int .i64 0, .int .i64 0, .int .i64 0]) rfl rfl KR.out rfl Try.sizeOf24 (by simp [Value.oneCell']) ?_))
                  obtain rfl := F3.out (by simp)
                  exact bodyPost_ret (v := .tuple #[ptV 0 0 0, .int .i64 5]) (results_rowT Try.results54 rfl rfl (setRow_heap _ _ #[.int .i64 0, .int .i64 0, .int .i64 0] _ _ _ KR.out) 3 rfl Try.sizeOf24 Try.isAgg24) rfl ⟨rfl, below_setRowN HBs.out (Nat.le_refl _) _⟩
                | false =>
                  have lM := (Array.getElem?_eq_some_iff.1 tk0).1
                  have lL := (Array.getElem?_eq_some_iff.1 sk0).1
                  refine region_calmG [(86, .int .i64 (n : Int)), (87, .slice (some ⟨g1, 0, none⟩) 3 k1), (88, .int .i64 2), (89, .pointer (some ⟨g1, 6, none⟩)), (90, ptV c0 c1 c2), (91, ptV M0 M1 M2), (92, .bool false), (93, .bool false), (94, .int .i64 (n : Int)), (95, .slice (some ⟨g2, 0, none⟩) 3 k2), (96, .int .i64 2), (97, .pointer (some ⟨g2, 6, none⟩)), (98, ptV f0 f1 f2), (99, ptV L0 L1 L2), (100, .bool false), (101, .bool false)] (by kernel_rfl) (by kernel_rfl) (by kernel_rfl) (fun aE hpe => ?_)
                  simp only [puts, Act.put, List.setIfInBounds_toArray, List.set_cons_zero, List.set_cons_succ] at hpe
                  subst hpe
                  refine ⟨⟨.inr (.inr ?_), .inr (.inr ?_), .inr (.inr ?_), .inr (.inr ?_), .inr (.inr ?_), .inr (.inr ?_), .inr (.inr ?_), .inr (.inr ?_), .inr (.inr ?_), .inr (.inr ?_), .inr (.inr ?_), .inr (.inr ?_), .inr (.inr ?_), .inr (.inr ?_), .inr (.inr ?_), .inr (.inr ?_), trivial⟩, ?_⟩
                  · exact CalmG.mk 86 (.int .i64 (n : Int)) rfl rfl rfl (fun W hW => calm_move (.tmp 0) rfl rfl)
                  · exact CalmG.mk 87 (.slice (some ⟨g1, 0, none⟩) 3 k1) rfl rfl rfl (fun W hW => calm_move (.tmp 1) rfl rfl)
                  · exact CalmG.mk 88 (.int .i64 2) rfl rfl rfl (fun W hW => calm_move (.tmp 13) rfl rfl)
                  · exact CalmG.mk 89 (.pointer (some ⟨g1, 6, none⟩)) rfl rfl rfl (fun W hW => calm_run (by simp [execOp, Act.eval, go_sem]))
                  · exact CalmG.mk 90 (ptV c0 c1 c2) rfl rfl rfl (fun W hW => calm_loadPt 23 (.tmp 89) rfl rfl (cell_below hW (HPa.out 2 (by omega)).1) (cell_below hW (HPa.out 2 (by omega)).2.1) (cell_below hW (HPa.out 2 (by omega)).2.2) Try.sizeOf23 Try.isAgg23)
                  · exact CalmG.mk 91 (ptV M0 M1 M2) rfl rfl rfl (fun W hW => calm_load (cs := #[.int .i64 M0, .int .i64 M1, .int .i64 M2]) (g := tb0) (T := 24) (fr := (0, 0)) 24 (.tmp 11) rfl rfl ((hW.block _ lM).trans tk0) 3 rfl Try.sizeOf24 Try.isAgg24)
                  · exact CalmG.mk 92 (.bool false) rfl rfl rfl (fun W hW => calm_call 70 _ #[.int .i64 (n : Int), ptV c0 c1 c2, ptV M0 M1 M2] rfl rfl rfl (by simp [Act.eval]) (Try.call70 _ _) (Hoa2.out W))
                  · exact CalmG.mk 93 (.bool false) rfl rfl rfl (fun W hW => calm_move (.tmp 92) rfl rfl)
                  · exact CalmG.mk 94 (.int .i64 (n : Int)) rfl rfl rfl (fun W hW => calm_move (.tmp 0) rfl rfl)
                  · exact CalmG.mk 95 (.slice (some ⟨g2, 0, none⟩) 3 k2) rfl rfl rfl (fun W hW => calm_move (.tmp 2) rfl rfl)
                  · exact CalmG.mk 96 (.int .i64 2) rfl rfl rfl (fun W hW => calm_move (.tmp 13) rfl rfl)
                  · exact CalmG.mk 97 (.pointer (some ⟨g2, 6, none⟩)) rfl rfl rfl (fun W hW => calm_run (by simp [execOp, Act.eval, go_sem]))
                  · exact CalmG.mk 98 (ptV f0 f1 f2) rfl rfl rfl (fun W hW => calm_loadPt 23 (.tmp 97) rfl rfl (cell_below hW (HPb.out 2 (by omega)).1) (cell_below hW (HPb.out 2 (by omega)).2.1) (cell_below hW (HPb.out 2 (by omega)).2.2) Try.sizeOf23 Try.isAgg23)
                  · exact CalmG.mk 99 (ptV L0 L1 L2) rfl rfl rfl (fun W hW => calm_load (cs := #[.int .i64 L0, .int .i64 L1, .int .i64 L2]) (g := sb0) (T := 24) (fr := (0, 0)) 24 (.tmp 9) rfl rfl ((hW.block _ lL).trans sk0) 3 rfl Try.sizeOf24 Try.isAgg24)
                  · exact CalmG.mk 100 (.bool false) rfl rfl rfl (fun W hW => calm_call 70 _ #[.int .i64 (n : Int), ptV f0 f1 f2, ptV L0 L1 L2] rfl rfl rfl (by simp [Act.eval]) (Try.call70 _ _) (Hob2.out W))
                  · exact CalmG.mk 101 (.bool false) rfl rfl rfl (fun W hW => calm_run (by simp [execOp, Act.eval, go_sem]))
                  intro W11 hW
                  clear lM lL
                  have lr0 := (Array.getElem?_eq_some_iff.1 KR.out).1
                  replace KR := Lib.hid ((hW.block _ lr0).trans KR.out)
                  replace HBs := Lib.hid (low_tr' HBs.out hW HBs.out.size)
                  replace HPa := Lib.hid (HP1.out.below HBs.out)
                  replace HPb := Lib.hid (HP2.out.below HBs.out)
                  have lsk0 := (Array.getElem?_eq_some_iff.1 sk0).1
                  replace sk0 := (hW.block _ lsk0).trans sk0
                  clear lsk0
                  have ltk0 := (Array.getElem?_eq_some_iff.1 tk0).1
                  replace tk0 := (hW.block _ ltk0).trans tk0
                  clear ltk0
                  clear hW lr0
                  clear Hoa2 Hob2
                  go_wp2
                  rw [rounds_succ]
                  clear F3 sk0 tk0
                  go_wp2
                  have HO := Lib.hid (show (W11.alloc (.cells #[] 23)).ownsRow W11.heap.size 23 3 (.slice (some ⟨W11.heap.size, 0, none⟩) 0 0) 0 (ptCs []) from ⟨rfl, .inr ⟨W11.heap.size, 0, #[], rfl, Nat.le_refl _, heap_alloc_new _ _, Nat.le_refl _, by unfold maxLen; omega, rfl, rfl⟩⟩)
                  have lr0 := (Array.getElem?_eq_some_iff.1 KR.out).1
                  replace KR := Lib.hid ((hn_pastN W11 (.cells #[] 23) _ lr0).trans KR.out)
                  replace HBs := Lib.hid (bal HBs.out (.cells #[] 23))
                  replace HPa := Lib.hid (HP1.out.below HBs.out)
                  replace HPb := Lib.hid (HP2.out.below HBs.out)
                  generalize hVV : W11.alloc (.cells #[] 23) = VV at *
                  clear hVV
                  obtain ⟨B0, hB0⟩ : ∃ B0, W11.heap.size = B0 := ⟨_, rfl⟩
                  rw [hB0] at HO lr0
                  have hw0 : w.heap.size < B0 := lr0
                  rw [hB0]
                  clear hB0 lr0
                  refine wp_loop_rounds 4 ?_
                  rw [rounds_succ]; go_wp2
                  refine wp_loop_rounds 4 ?_
                  rw [rounds_succ]; go_wp2
                  refine region_boxes [⟨13, 14, 17, 24, #[.int .i64 0, .int .i64 0, .int .i64 0], #[.int .i64 J10, .int .i64 J11, .int .i64 J12]⟩] [(115, .int .i64 (n : Int)), (116, .slice (some ⟨g1, 0, none⟩) 3 k1), (117, .int .i64 0), (118, .pointer (some ⟨g1, 0, none⟩)), (119, ptV a0 a1 a2), (120, .slice (some ⟨g2, 0, none⟩) 3 k2), (121, .int .i64 1), (122, .pointer (some ⟨g2, 3, none⟩)), (123, ptV e0 e1 e2), (124, .tuple #[ptV J10 J11 J12, .bool uJ1]), (114, .tuple #[ptV J10 J11 J12, .bool uJ1]), (125, ptV J10 J11 J12), (126, .bool uJ1), (18, .bool uJ1)] (by kernel_rfl) (by kernel_rfl) (by kernel_rfl) (fun aE hpe => ?_)
                  simp only [puts, Act.put, List.setIfInBounds_toArray, List.set_cons_zero, List.set_cons_succ] at hpe
                  subst hpe
                  refine ⟨⟨⟨?_, ?_⟩, trivial⟩, ⟨.inr ?_, .inr ?_, .inr ?_, .inr ?_, .inr ?_, .inr ?_, .inr ?_, .inr ?_, .inr ?_, .inr ?_, .inr ?_, .inr ?_, .inr ?_, .inl rfl, .inl rfl, .inr ?_, trivial⟩, ?_⟩
                  · intro o ho ρ W
                    obtain rfl : _ = o := Option.some.inj ho
                    simp [execOp, go_sem]
                  · intro o ho ρ W g hv hp hg
                    obtain rfl : _ = o := Option.some.inj ho
                    exact run_store_row (U := #[.int .i64 J10, .int .i64 J11, .int .i64 J12]) 24 (.tmp 17) (.tmp 125) rfl hp (hv 125 (by simp [readsOf, Op.operands]) (by show (125 : Nat) ≠ 17; decide)) hg rfl Try.sizeOf24 (by simp [Value.oneCell'])
                  · exact CalmG.mk 115 (.int .i64 (n : Int)) rfl rfl rfl (fun W hW => calm_move (.tmp 0) rfl rfl)
                  · exact CalmG.mk 116 (.slice (some ⟨g1, 0, none⟩) 3 k1) rfl rfl rfl (fun W hW => calm_move (.tmp 1) rfl rfl)
                  · exact CalmG.mk 117 (.int .i64 0) rfl rfl rfl (fun W hW => calm_move (.tmp 15) rfl rfl)
                  · exact CalmG.mk 118 (.pointer (some ⟨g1, 0, none⟩)) rfl rfl rfl (fun W hW => calm_run (by simp [execOp, Act.eval, go_sem]))
                  · exact CalmG.mk 119 (ptV a0 a1 a2) rfl rfl rfl (fun W hW => calm_loadPt 23 (.tmp 118) rfl rfl (cell_below hW (HPa.out 0 (by omega)).1) (cell_below hW (HPa.out 0 (by omega)).2.1) (cell_below hW (HPa.out 0 (by omega)).2.2) Try.sizeOf23 Try.isAgg23)
                  · exact CalmG.mk 120 (.slice (some ⟨g2, 0, none⟩) 3 k2) rfl rfl rfl (fun W hW => calm_move (.tmp 2) rfl rfl)
                  · exact CalmG.mk 121 (.int .i64 1) rfl rfl rfl (fun W hW => calm_move (.tmp 16) rfl rfl)
                  · exact CalmG.mk 122 (.pointer (some ⟨g2, 3, none⟩)) rfl rfl rfl (fun W hW => calm_run (by simp [execOp, Act.eval, go_sem]))
                  · exact CalmG.mk 123 (ptV e0 e1 e2) rfl rfl rfl (fun W hW => calm_loadPt 23 (.tmp 122) rfl rfl (cell_below hW (HPb.out 1 (by omega)).1) (cell_below hW (HPb.out 1 (by omega)).2.1) (cell_below hW (HPb.out 1 (by omega)).2.2) Try.sizeOf23 Try.isAgg23)
                  · exact CalmG.mk 124 (.tuple #[ptV J10 J11 J12, .bool uJ1]) rfl rfl rfl (fun W hW => calm_call 96 _ #[.int .i64 (n : Int), ptV a0 a1 a2, ptV e0 e1 e2] rfl rfl rfl (by simp [Act.eval]) (Try.call96 _ _) (HJ1.out W))
                  · exact CalmG.mk 114 (.tuple #[ptV J10 J11 J12, .bool uJ1]) rfl rfl rfl (fun W hW => calm_move (.tmp 124) rfl rfl)
                  · exact CalmG.mk 125 (ptV J10 J11 J12) rfl rfl rfl (fun W hW => calm_extract (.tmp 114) 0 rfl rfl rfl)
                  · exact CalmG.mk 126 (.bool uJ1) rfl rfl rfl (fun W hW => calm_extract (.tmp 114) 1 rfl rfl rfl)
                  · exact CalmG.mk 18 (.bool uJ1) rfl rfl rfl (fun W hW => calm_assign (.tmp 126) rfl rfl)
                  intro g W201 hW hbx _
                  obtain ⟨yg0, yk0⟩ := hbx _ (.head _)
                  dsimp only at yg0 yk0
                  simp only [List.map_cons, List.map_nil, puts, Act.put, List.setIfInBounds_toArray, List.set_cons_zero, List.set_cons_succ]
                  clear hbx
                  generalize g 17 = yb0 at *
                  have lr0 := (Array.getElem?_eq_some_iff.1 KR.out).1
                  replace KR := Lib.hid ((hW.block _ lr0).trans KR.out)
                  replace HBs := Lib.hid (low_tr' HBs.out hW HBs.out.size)
                  replace HPa := Lib.hid (HP1.out.below HBs.out)
                  replace HPb := Lib.hid (HP2.out.below HBs.out)
                  replace HO := Lib.hid (own_below HO.out hW)
                  clear hW lr0
                  clear yg0 HJ1
                  go_wp2
                  refine region_boxes [⟨13, 14, 19, 24, #[.int .i64 0, .int .i64 0, .int .i64 0], #[.int .i64 K10, .int .i64 K11, .int .i64 K12]⟩] [(128, .int .i64 (n : Int)), (129, .slice (some ⟨g1, 0, none⟩) 3 k1), (130, .int .i64 1), (131, .pointer (some ⟨g1, 3, none⟩)), (132, ptV b0 b1 b2), (133, .slice (some ⟨g2, 0, none⟩) 3 k2), (134, .int .i64 0), (135, .pointer (some ⟨g2, 0, none⟩)), (136, ptV d0 d1 d2), (137, .tuple #[ptV K10 K11 K12, .bool uK1]), (127, .tuple #[ptV K10 K11 K12, .bool uK1]), (138, ptV K10 K11 K12), (139, .bool uK1), (20, .bool uK1)] (by kernel_rfl) (by kernel_rfl) (by kernel_rfl) (fun aE hpe => ?_)
                  simp only [puts, Act.put, List.setIfInBounds_toArray, List.set_cons_zero, List.set_cons_succ] at hpe
                  subst hpe
                  refine ⟨⟨⟨?_, ?_⟩, trivial⟩, ⟨.inr ?_, .inr ?_, .inr ?_, .inr ?_, .inr ?_, .inr ?_, .inr ?_, .inr ?_, .inr ?_, .inr ?_, .inr ?_, .inr ?_, .inr ?_, .inl rfl, .inl rfl, .inr ?_, trivial⟩, ?_⟩
                  · intro o ho ρ W
                    obtain rfl : _ = o := Option.some.inj ho
                    simp [execOp, go_sem]
                  · intro o ho ρ W g hv hp hg
                    obtain rfl : _ = o := Option.some.inj ho
                    exact run_store_row (U := #[.int .i64 K10, .int .i64 K11, .int .i64 K12]) 24 (.tmp 19) (.tmp 138) rfl hp (hv 138 (by simp [readsOf, Op.operands]) (by show (138 : Nat) ≠ 19; decide)) hg rfl Try.sizeOf24 (by simp [Value.oneCell'])
                  · exact CalmG.mk 128 (.int .i64 (n : Int)) rfl rfl rfl (fun W hW => calm_move (.tmp 0) rfl rfl)
                  · exact CalmG.mk 129 (.slice (some ⟨g1, 0, none⟩) 3 k1) rfl rfl rfl (fun W hW => calm_move (.tmp 1) rfl rfl)
                  · exact CalmG.mk 130 (.int .i64 1) rfl rfl rfl (fun W hW => calm_move (.tmp 16) rfl rfl)
                  · exact CalmG.mk 131 (.pointer (some ⟨g1, 3, none⟩)) rfl rfl rfl (fun W hW => calm_run (by simp [execOp, Act.eval, go_sem]))
                  · exact CalmG.mk 132 (ptV b0 b1 b2) rfl rfl rfl (fun W hW => calm_loadPt 23 (.tmp 131) rfl rfl (cell_below hW (HPa.out 1 (by omega)).1) (cell_below hW (HPa.out 1 (by omega)).2.1) (cell_below hW (HPa.out 1 (by omega)).2.2) Try.sizeOf23 Try.isAgg23)
                  · exact CalmG.mk 133 (.slice (some ⟨g2, 0, none⟩) 3 k2) rfl rfl rfl (fun W hW => calm_move (.tmp 2) rfl rfl)
                  · exact CalmG.mk 134 (.int .i64 0) rfl rfl rfl (fun W hW => calm_move (.tmp 15) rfl rfl)
                  · exact CalmG.mk 135 (.pointer (some ⟨g2, 0, none⟩)) rfl rfl rfl (fun W hW => calm_run (by simp [execOp, Act.eval, go_sem]))
                  · exact CalmG.mk 136 (ptV d0 d1 d2) rfl rfl rfl (fun W hW => calm_loadPt 23 (.tmp 135) rfl rfl (cell_below hW (HPb.out 0 (by omega)).1) (cell_below hW (HPb.out 0 (by omega)).2.1) (cell_below hW (HPb.out 0 (by omega)).2.2) Try.sizeOf23 Try.isAgg23)
                  · exact CalmG.mk 137 (.tuple #[ptV K10 K11 K12, .bool uK1]) rfl rfl rfl (fun W hW => calm_call 96 _ #[.int .i64 (n : Int), ptV b0 b1 b2, ptV d0 d1 d2] rfl rfl rfl (by simp [Act.eval]) (Try.call96 _ _) (HK1.out W))
                  · exact CalmG.mk 127 (.tuple #[ptV K10 K11 K12, .bool uK1]) rfl rfl rfl (fun W hW => calm_move (.tmp 137) rfl rfl)
                  · exact CalmG.mk 138 (ptV K10 K11 K12) rfl rfl rfl (fun W hW => calm_extract (.tmp 127) 0 rfl rfl rfl)
                  · exact CalmG.mk 139 (.bool uK1) rfl rfl rfl (fun W hW => calm_extract (.tmp 127) 1 rfl rfl rfl)
                  · exact CalmG.mk 20 (.bool uK1) rfl rfl rfl (fun W hW => calm_assign (.tmp 139) rfl rfl)
                  intro g W211 hW hbx _
                  obtain ⟨zg0, zk0⟩ := hbx _ (.head _)
                  dsimp only at zg0 zk0
                  simp only [List.map_cons, List.map_nil, puts, Act.put, List.setIfInBounds_toArray, List.set_cons_zero, List.set_cons_succ]
                  clear hbx
                  generalize g 19 = zb0 at *
                  have lr0 := (Array.getElem?_eq_some_iff.1 KR.out).1
                  replace KR := Lib.hid ((hW.block _ lr0).trans KR.out)
                  replace HBs := Lib.hid (low_tr' HBs.out hW HBs.out.size)
                  replace HPa := Lib.hid (HP1.out.below HBs.out)
                  replace HPb := Lib.hid (HP2.out.below HBs.out)
                  have lyk0 := (Array.getElem?_eq_some_iff.1 yk0).1
                  replace yk0 := (hW.block _ lyk0).trans yk0
                  clear lyk0
                  replace HO := Lib.hid (own_below HO.out hW)
                  clear hW lr0
                  clear zg0 HK1
                  have hsb : B0 ≤ W211.heap.size := own_sz HO.out
                  go_wp2_with (first
                    | (refine wpList_load_row _ rfl 24 _ rfl (g := yb0) (T := 24) (cs := #[.int .i64 J10, .int .i64 J11, .int .i64 J12]) (fr := (0, 0)) rfl (yk0) 3 rfl Try.sizeOf24 Try.isAgg24 ?_)
                    | (refine wpList_load_row _ rfl 24 _ rfl (g := zb0) (T := 24) (cs := #[.int .i64 K10, .int .i64 K11, .int .i64 K12]) (fr := (0, 0)) rfl (zk0) 3 rfl Try.sizeOf24 Try.isAgg24 ?_)
                    | (go_at_call 98; refine (HX.out _).mono ?_; rintro e wm1 ⟨rfl, hbm⟩; have HBm := Lib.hid hbm; clear hbm)
                    | (refine wpList_store_row _ rfl 23 _ _ rfl rfl (U := #[.int .i64 X0, .int .i64 X1, .int .i64 X2]) rfl rfl (heap_alloc_new _ _) rfl Try.sizeOf23 (by simp [Value.oneCell']) ?_; rw [alloc_setRow])
                    | (refine wpList_load_row _ rfl 23 _ rfl (g := wm1.heap.size) (T := 23) (cs := #[.int .i64 X0, .int .i64 X1, .int .i64 X2]) (fr := (0, 0)) rfl (by rw [hn_atN _ _ _ rfl]) 3 rfl Try.sizeOf23 Try.isAgg23 ?_)
                    | (at_builtin; go_loud (refine wpList_append_own _ rfl _ _ 52 rfl B0 23 i0 (.agg #[.int .i64 0, .int .i64 0, .int .i64 0]) 3 24 Try.underlying52 HI0.out HZ0.out HZ1.out HZ2.out rfl (by decide) _ _ _ rfl (((own_below HO.out HBm.out).alloc _).alloc _) ⟨wm1.heap.size + 1, 0, none⟩ 1 1 [.int .i64 X0, .int .i64 X1, .int .i64 X2] rfl rfl (newPs _ _ (by simp) _ _ _ _) (oneP _ _ _) (by unfold maxLen; omega) (by omega) (by have := HBm.out.size; first | omega | (simp; done) | (simp; omega)) ?_; intro v1 w1 hown hgrow _; have HO2 := Lib.hid hown; have HG := Lib.hid hgrow; clear hown hgrow)))
                  have hnb := own_base' HO.out
                  have lm := (Array.getElem?_eq_some_iff.1 KR.out).1
                  have lm2 : w.heap.size < wm1.heap.size := Nat.lt_of_lt_of_le lm HBm.out.size
                  have BM := bal (bal (low_tr' HBs.out HBm.out HBs.out.size) (.cells #[.int .i64 X0, .int .i64 X1, .int .i64 X2] 23)) (.cells #[.int .i64 X0, .int .i64 X1, .int .i64 X2] 23)
                  replace KR := Lib.hid (show w1.heap[w.heap.size]? = some (.cells #[.int .i64 0, .int .i64 0, .int .i64 0] 24 (0, 0)) by rw [HG.out.block (w.heap.size) (by first | omega | (simp; done) | (simp; omega)) (fun e => by have := hnb _ e.symm; omega), hn_pastN _ _ _ (by first | omega | (simp; done) | (simp; omega)), hn_pastN _ _ _ lm2, HBm.out.block _ lm]; exact KR.out)
                  replace HBs := Lib.hid (show Below w.heap.size w w1 from BM.grown HG.out BM.size (fun k' hk' => by have := hnb k' hk'; omega))
                  replace HO := Lib.hid (show w1.ownsRow B0 23 3 v1 1 (ptCs [(X0, X1, X2)]) from HO2.out)
                  replace HPa := Lib.hid (HP1.out.below HBs.out)
                  replace HPb := Lib.hid (HP2.out.below HBs.out)
                  clear HO2 HG HBm BM hnb lm lm2 hsb HX
                  rw [rounds_succ]; go_wp2
                  refine region_boxes [⟨13, 14, 17, 24, #[.int .i64 0, .int .i64 0, .int .i64 0], #[.int .i64 J20, .int .i64 J21, .int .i64 J22]⟩] [(115, .int .i64 (n : Int)), (116, .slice (some ⟨g1, 0, none⟩) 3 k1), (117, .int .i64 0), (118, .pointer (some ⟨g1, 0, none⟩)), (119, ptV a0 a1 a2), (120, .slice (some ⟨g2, 0, none⟩) 3 k2), (121, .int .i64 2), (122, .pointer (some ⟨g2, 6, none⟩)), (123, ptV f0 f1 f2), (124, .tuple #[ptV J20 J21 J22, .bool uJ2]), (114, .tuple #[ptV J20 J21 J22, .bool uJ2]), (125, ptV J20 J21 J22), (126, .bool uJ2), (18, .bool uJ2)] (by kernel_rfl) (by kernel_rfl) (by kernel_rfl) (fun aE hpe => ?_)
                  simp only [puts, Act.put, List.setIfInBounds_toArray, List.set_cons_zero, List.set_cons_succ] at hpe
                  subst hpe
                  refine ⟨⟨⟨?_, ?_⟩, trivial⟩, ⟨.inr ?_, .inr ?_, .inr ?_, .inr ?_, .inr ?_, .inr ?_, .inr ?_, .inr ?_, .inr ?_, .inr ?_, .inr ?_, .inr ?_, .inr ?_, .inl rfl, .inl rfl, .inr ?_, trivial⟩, ?_⟩
                  · intro o ho ρ W
                    obtain rfl : _ = o := Option.some.inj ho
                    simp [execOp, go_sem]
                  · intro o ho ρ W g hv hp hg
                    obtain rfl : _ = o := Option.some.inj ho
                    exact run_store_row (U := #[.int .i64 J20, .int .i64 J21, .int .i64 J22]) 24 (.tmp 17) (.tmp 125) rfl hp (hv 125 (by simp [readsOf, Op.operands]) (by show (125 : Nat) ≠ 17; decide)) hg rfl Try.sizeOf24 (by simp [Value.oneCell'])
                  · exact CalmG.mk 115 (.int .i64 (n : Int)) rfl rfl rfl (fun W hW => calm_move (.tmp 0) rfl rfl)
                  · exact CalmG.mk 116 (.slice (some ⟨g1, 0, none⟩) 3 k1) rfl rfl rfl (fun W hW => calm_move (.tmp 1) rfl rfl)
                  · exact CalmG.mk 117 (.int .i64 0) rfl rfl rfl (fun W hW => calm_move (.tmp 15) rfl rfl)
                  · exact CalmG.mk 118 (.pointer (some ⟨g1, 0, none⟩)) rfl rfl rfl (fun W hW => calm_run (by simp [execOp, Act.eval, go_sem]))
                  · exact CalmG.mk 119 (ptV a0 a1 a2) rfl rfl rfl (fun W hW => calm_loadPt 23 (.tmp 118) rfl rfl (cell_below hW (HPa.out 0 (by omega)).1) (cell_below hW (HPa.out 0 (by omega)).2.1) (cell_below hW (HPa.out 0 (by omega)).2.2) Try.sizeOf23 Try.isAgg23)
                  · exact CalmG.mk 120 (.slice (some ⟨g2, 0, none⟩) 3 k2) rfl rfl rfl (fun W hW => calm_move (.tmp 2) rfl rfl)
                  · exact CalmG.mk 121 (.int .i64 2) rfl rfl rfl (fun W hW => calm_move (.tmp 16) rfl rfl)
                  · exact CalmG.mk 122 (.pointer (some ⟨g2, 6, none⟩)) rfl rfl rfl (fun W hW => calm_run (by simp [execOp, Act.eval, go_sem]))
                  · exact CalmG.mk 123 (ptV f0 f1 f2) rfl rfl rfl (fun W hW => calm_loadPt 23 (.tmp 122) rfl rfl (cell_below hW (HPb.out 2 (by omega)).1) (cell_below hW (HPb.out 2 (by omega)).2.1) (cell_below hW (HPb.out 2 (by omega)).2.2) Try.sizeOf23 Try.isAgg23)
                  · exact CalmG.mk 124 (.tuple #[ptV J20 J21 J22, .bool uJ2]) rfl rfl rfl (fun W hW => calm_call 96 _ #[.int .i64 (n : Int), ptV a0 a1 a2, ptV f0 f1 f2] rfl rfl rfl (by simp [Act.eval]) (Try.call96 _ _) (HJ2.out W))
                  · exact CalmG.mk 114 (.tuple #[ptV J20 J21 J22, .bool uJ2]) rfl rfl rfl (fun W hW => calm_move (.tmp 124) rfl rfl)
                  · exact CalmG.mk 125 (ptV J20 J21 J22) rfl rfl rfl (fun W hW => calm_extract (.tmp 114) 0 rfl rfl rfl)
                  · exact CalmG.mk 126 (.bool uJ2) rfl rfl rfl (fun W hW => calm_extract (.tmp 114) 1 rfl rfl rfl)
                  · exact CalmG.mk 18 (.bool uJ2) rfl rfl rfl (fun W hW => calm_assign (.tmp 126) rfl rfl)
                  intro g W202 hW hbx _
                  obtain ⟨yg0, yk0⟩ := hbx _ (.head _)
                  dsimp only at yg0 yk0
                  simp only [List.map_cons, List.map_nil, puts, Act.put, List.setIfInBounds_toArray, List.set_cons_zero, List.set_cons_succ]
                  clear hbx
                  generalize g 17 = yb0 at *
                  have lr0 := (Array.getElem?_eq_some_iff.1 KR.out).1
                  replace KR := Lib.hid ((hW.block _ lr0).trans KR.out)
                  replace HBs := Lib.hid (low_tr' HBs.out hW HBs.out.size)
                  replace HPa := Lib.hid (HP1.out.below HBs.out)
                  replace HPb := Lib.hid (HP2.out.below HBs.out)
                  replace HO := Lib.hid (own_below HO.out hW)
                  clear hW lr0
                  clear yg0 HJ2
                  go_wp2
                  refine region_boxes [⟨13, 14, 19, 24, #[.int .i64 0, .int .i64 0, .int .i64 0], #[.int .i64 K20, .int .i64 K21, .int .i64 K22]⟩] [(128, .int .i64 (n : Int)), (129, .slice (some ⟨g1, 0, none⟩) 3 k1), (130, .int .i64 2), (131, .pointer (some ⟨g1, 6, none⟩)), (132, ptV c0 c1 c2), (133, .slice (some ⟨g2, 0, none⟩) 3 k2), (134, .int .i64 0), (135, .pointer (some ⟨g2, 0, none⟩)), (136, ptV d0 d1 d2), (137, .tuple #[ptV K20 K21 K22, .bool uK2]), (127, .tuple #[ptV K20 K21 K22, .bool uK2]), (138, ptV K20 K21 K22), (139, .bool uK2), (20, .bool uK2)] (by kernel_rfl) (by kernel_rfl) (by kernel_rfl) (fun aE hpe => ?_)
                  simp only [puts, Act.put, List.setIfInBounds_toArray, List.set_cons_zero, List.set_cons_succ] at hpe
                  subst hpe
                  refine ⟨⟨⟨?_, ?_⟩, trivial⟩, ⟨.inr ?_, .inr ?_, .inr ?_, .inr ?_, .inr ?_, .inr ?_, .inr ?_, .inr ?_, .inr ?_, .inr ?_, .inr ?_, .inr ?_, .inr ?_, .inl rfl, .inl rfl, .inr ?_, trivial⟩, ?_⟩
                  · intro o ho ρ W
                    obtain rfl : _ = o := Option.some.inj ho
                    simp [execOp, go_sem]
                  · intro o ho ρ W g hv hp hg
                    obtain rfl : _ = o := Option.some.inj ho
                    exact run_store_row (U := #[.int .i64 K20, .int .i64 K21, .int .i64 K22]) 24 (.tmp 19) (.tmp 138) rfl hp (hv 138 (by simp [readsOf, Op.operands]) (by show (138 : Nat) ≠ 19; decide)) hg rfl Try.sizeOf24 (by simp [Value.oneCell'])
                  · exact CalmG.mk 128 (.int .i64 (n : Int)) rfl rfl rfl (fun W hW => calm_move (.tmp 0) rfl rfl)
                  · exact CalmG.mk 129 (.slice (some ⟨g1, 0, none⟩) 3 k1) rfl rfl rfl (fun W hW => calm_move (.tmp 1) rfl rfl)
                  · exact CalmG.mk 130 (.int .i64 2) rfl rfl rfl (fun W hW => calm_move (.tmp 16) rfl rfl)
                  · exact CalmG.mk 131 (.pointer (some ⟨g1, 6, none⟩)) rfl rfl rfl (fun W hW => calm_run (by simp [execOp, Act.eval, go_sem]))
                  · exact CalmG.mk 132 (ptV c0 c1 c2) rfl rfl rfl (fun W hW => calm_loadPt 23 (.tmp 131) rfl rfl (cell_below hW (HPa.out 2 (by omega)).1) (cell_below hW (HPa.out 2 (by omega)).2.1) (cell_below hW (HPa.out 2 (by omega)).2.2) Try.sizeOf23 Try.isAgg23)
                  · exact CalmG.mk 133 (.slice (some ⟨g2, 0, none⟩) 3 k2) rfl rfl rfl (fun W hW => calm_move (.tmp 2) rfl rfl)
                  · exact CalmG.mk 134 (.int .i64 0) rfl rfl rfl (fun W hW => calm_move (.tmp 15) rfl rfl)
                  · exact CalmG.mk 135 (.pointer (some ⟨g2, 0, none⟩)) rfl rfl rfl (fun W hW => calm_run (by simp [execOp, Act.eval, go_sem]))
                  · exact CalmG.mk 136 (ptV d0 d1 d2) rfl rfl rfl (fun W hW => calm_loadPt 23 (.tmp 135) rfl rfl (cell_below hW (HPb.out 0 (by omega)).1) (cell_below hW (HPb.out 0 (by omega)).2.1) (cell_below hW (HPb.out 0 (by omega)).2.2) Try.sizeOf23 Try.isAgg23)
                  · exact CalmG.mk 137 (.tuple #[ptV K20 K21 K22, .bool uK2]) rfl rfl rfl (fun W hW => calm_call 96 _ #[.int .i64 (n : Int), ptV c0 c1 c2, ptV d0 d1 d2] rfl rfl rfl (by simp [Act.eval]) (Try.call96 _ _) (HK2.out W))
                  · exact CalmG.mk 127 (.tuple #[ptV K20 K21 K22, .bool uK2]) rfl rfl rfl (fun W hW => calm_move (.tmp 137) rfl rfl)
                  · exact CalmG.mk 138 (ptV K20 K21 K22) rfl rfl rfl (fun W hW => calm_extract (.tmp 127) 0 rfl rfl rfl)
                  · exact CalmG.mk 139 (.bool uK2) rfl rfl rfl (fun W hW => calm_extract (.tmp 127) 1 rfl rfl rfl)
                  · exact CalmG.mk 20 (.bool uK2) rfl rfl rfl (fun W hW => calm_assign (.tmp 139) rfl rfl)
                  intro g W212 hW hbx _
                  obtain ⟨zg0, zk0⟩ := hbx _ (.head _)
                  dsimp only at zg0 zk0
                  simp only [List.map_cons, List.map_nil, puts, Act.put, List.setIfInBounds_toArray, List.set_cons_zero, List.set_cons_succ]
                  clear hbx
                  generalize g 19 = zb0 at *
                  have lr0 := (Array.getElem?_eq_some_iff.1 KR.out).1
                  replace KR := Lib.hid ((hW.block _ lr0).trans KR.out)
                  replace HBs := Lib.hid (low_tr' HBs.out hW HBs.out.size)
                  replace HPa := Lib.hid (HP1.out.below HBs.out)
                  replace HPb := Lib.hid (HP2.out.below HBs.out)
                  have lyk0 := (Array.getElem?_eq_some_iff.1 yk0).1
                  replace yk0 := (hW.block _ lyk0).trans yk0
                  clear lyk0
                  replace HO := Lib.hid (own_below HO.out hW)
                  clear hW lr0
                  clear zg0 HK2
                  have hsb : B0 ≤ W212.heap.size := own_szn HO.out (by omega)
                  go_wp2_with (first
                    | (refine wpList_load_row _ rfl 24 _ rfl (g := yb0) (T := 24) (cs := #[.int .i64 J20, .int .i64 J21, .int .i64 J22]) (fr := (0, 0)) rfl (yk0) 3 rfl Try.sizeOf24 Try.isAgg24 ?_)
                    | (refine wpList_load_row _ rfl 24 _ rfl (g := zb0) (T := 24) (cs := #[.int .i64 K20, .int .i64 K21, .int .i64 K22]) (fr := (0, 0)) rfl (zk0) 3 rfl Try.sizeOf24 Try.isAgg24 ?_)
                    | (go_at_call 98; refine (HY.out _).mono ?_; rintro e wm2 ⟨rfl, hbm⟩; have HBm := Lib.hid hbm; clear hbm)
                    | (refine wpList_store_row _ rfl 23 _ _ rfl rfl (U := #[.int .i64 Y0, .int .i64 Y1, .int .i64 Y2]) rfl rfl (heap_alloc_new _ _) rfl Try.sizeOf23 (by simp [Value.oneCell']) ?_; rw [alloc_setRow])
                    | (refine wpList_load_row _ rfl 23 _ rfl (g := wm2.heap.size) (T := 23) (cs := #[.int .i64 Y0, .int .i64 Y1, .int .i64 Y2]) (fr := (0, 0)) rfl (by rw [hn_atN _ _ _ rfl]) 3 rfl Try.sizeOf23 Try.isAgg23 ?_)
                    | (at_builtin; go_loud (refine wpList_append_own _ rfl _ _ 52 rfl B0 23 i0 (.agg #[.int .i64 0, .int .i64 0, .int .i64 0]) 3 24 Try.underlying52 HI0.out HZ0.out HZ1.out HZ2.out rfl (by decide) _ _ _ rfl (((own_below HO.out HBm.out).alloc _).alloc _) ⟨wm2.heap.size + 1, 0, none⟩ 1 1 [.int .i64 Y0, .int .i64 Y1, .int .i64 Y2] rfl rfl (newPs _ _ (by simp) _ _ _ _) (oneP _ _ _) (by unfold maxLen; omega) (by omega) (by have := HBm.out.size; first | omega | (simp; done) | (simp; omega)) ?_; intro v2 w2 hown hgrow _; have HO2 := Lib.hid hown; have HG := Lib.hid hgrow; clear hown hgrow)))
                  have hnb := own_base' HO.out
                  have lm := (Array.getElem?_eq_some_iff.1 KR.out).1
                  have lm2 : w.heap.size < wm2.heap.size := Nat.lt_of_lt_of_le lm HBm.out.size
                  have BM := bal (bal (low_tr' HBs.out HBm.out HBs.out.size) (.cells #[.int .i64 Y0, .int .i64 Y1, .int .i64 Y2] 23)) (.cells #[.int .i64 Y0, .int .i64 Y1, .int .i64 Y2] 23)
                  replace KR := Lib.hid (show w2.heap[w.heap.size]? = some (.cells #[.int .i64 0, .int .i64 0, .int .i64 0] 24 (0, 0)) by rw [HG.out.block (w.heap.size) (by first | omega | (simp; done) | (simp; omega)) (fun e => by have := hnb _ e.symm; omega), hn_pastN _ _ _ (by first | omega | (simp; done) | (simp; omega)), hn_pastN _ _ _ lm2, HBm.out.block _ lm]; exact KR.out)
                  replace HBs := Lib.hid (show Below w.heap.size w w2 from BM.grown HG.out BM.size (fun k' hk' => by have := hnb k' hk'; omega))
                  replace HO := Lib.hid (show w2.ownsRow B0 23 3 v2 2 (ptCs [(X0, X1, X2), (Y0, Y1, Y2)]) from HO2.out)
                  replace HPa := Lib.hid (HP1.out.below HBs.out)
                  replace HPb := Lib.hid (HP2.out.below HBs.out)
                  clear HO2 HG HBm BM hnb lm lm2 hsb HY
                  rw [rounds_succ]; go_wp2
                  rw [rounds_succ]; go_wp2
                  refine wp_loop_rounds 4 ?_
                  rw [rounds_succ]; go_wp2
                  refine region_boxes [⟨13, 14, 17, 24, #[.int .i64 0, .int .i64 0, .int .i64 0], #[.int .i64 J30, .int .i64 J31, .int .i64 J32]⟩] [(115, .int .i64 (n : Int)), (116, .slice (some ⟨g1, 0, none⟩) 3 k1), (117, .int .i64 1), (118, .pointer (some ⟨g1, 3, none⟩)), (119, ptV b0 b1 b2), (120, .slice (some ⟨g2, 0, none⟩) 3 k2), (121, .int .i64 2), (122, .pointer (some ⟨g2, 6, none⟩)), (123, ptV f0 f1 f2), (124, .tuple #[ptV J30 J31 J32, .bool uJ3]), (114, .tuple #[ptV J30 J31 J32, .bool uJ3]), (125, ptV J30 J31 J32), (126, .bool uJ3), (18, .bool uJ3)] (by kernel_rfl) (by kernel_rfl) (by kernel_rfl) (fun aE hpe => ?_)
                  simp only [puts, Act.put, List.setIfInBounds_toArray, List.set_cons_zero, List.set_cons_succ] at hpe
                  subst hpe
                  refine ⟨⟨⟨?_, ?_⟩, trivial⟩, ⟨.inr ?_, .inr ?_, .inr ?_, .inr ?_, .inr ?_, .inr ?_, .inr ?_, .inr ?_, .inr ?_, .inr ?_, .inr ?_, .inr ?_, .inr ?_, .inl rfl, .inl rfl, .inr ?_, trivial⟩, ?_⟩
                  · intro o ho ρ W
                    obtain rfl : _ = o := Option.some.inj ho
                    simp [execOp, go_sem]
                  · intro o ho ρ W g hv hp hg
                    obtain rfl : _ = o := Option.some.inj ho
                    exact run_store_row (U := #[.int .i64 J30, .int .i64 J31, .int .i64 J32]) 24 (.tmp 17) (.tmp 125) rfl hp (hv 125 (by simp [readsOf, Op.operands]) (by show (125 : Nat) ≠ 17; decide)) hg rfl Try.sizeOf24 (by simp [Value.oneCell'])
                  · exact CalmG.mk 115 (.int .i64 (n : Int)) rfl rfl rfl (fun W hW => calm_move (.tmp 0) rfl rfl)
                  · exact CalmG.mk 116 (.slice (some ⟨g1, 0, none⟩) 3 k1) rfl rfl rfl (fun W hW => calm_move (.tmp 1) rfl rfl)
                  · exact CalmG.mk 117 (.int .i64 1) rfl rfl rfl (fun W hW => calm_move (.tmp 15) rfl rfl)
                  · exact CalmG.mk 118 (.pointer (some ⟨g1, 3, none⟩)) rfl rfl rfl (fun W hW => calm_run (by simp [execOp, Act.eval, go_sem]))
                  · exact CalmG.mk 119 (ptV b0 b1 b2) rfl rfl rfl (fun W hW => calm_loadPt 23 (.tmp 118) rfl rfl (cell_below hW (HPa.out 1 (by omega)).1) (cell_below hW (HPa.out 1 (by omega)).2.1) (cell_below hW (HPa.out 1 (by omega)).2.2) Try.sizeOf23 Try.isAgg23)
                  · exact CalmG.mk 120 (.slice (some ⟨g2, 0, none⟩) 3 k2) rfl rfl rfl (fun W hW => calm_move (.tmp 2) rfl rfl)
                  · exact CalmG.mk 121 (.int .i64 2) rfl rfl rfl (fun W hW => calm_move (.tmp 16) rfl rfl)
                  · exact CalmG.mk 122 (.pointer (some ⟨g2, 6, none⟩)) rfl rfl rfl (fun W hW => calm_run (by simp [execOp, Act.eval, go_sem]))
                  · exact CalmG.mk 123 (ptV f0 f1 f2) rfl rfl rfl (fun W hW => calm_loadPt 23 (.tmp 122) rfl rfl (cell_below hW (HPb.out 2 (by omega)).1) (cell_below hW (HPb.out 2 (by omega)).2.1) (cell_below hW (HPb.out 2 (by omega)).2.2) Try.sizeOf23 Try.isAgg23)
                  · exact CalmG.mk 124 (.tuple #[ptV J30 J31 J32, .bool uJ3]) rfl rfl rfl (fun W hW => calm_call 96 _ #[.int .i64 (n : Int), ptV b0 b1 b2, ptV f0 f1 f2] rfl rfl rfl (by simp [Act.eval]) (Try.call96 _ _) (HJ3.out W))
                  · exact CalmG.mk 114 (.tuple #[ptV J30 J31 J32, .bool uJ3]) rfl rfl rfl (fun W hW => calm_move (.tmp 124) rfl rfl)
                  · exact CalmG.mk 125 (ptV J30 J31 J32) rfl rfl rfl (fun W hW => calm_extract (.tmp 114) 0 rfl rfl rfl)
                  · exact CalmG.mk 126 (.bool uJ3) rfl rfl rfl (fun W hW => calm_extract (.tmp 114) 1 rfl rfl rfl)
                  · exact CalmG.mk 18 (.bool uJ3) rfl rfl rfl (fun W hW => calm_assign (.tmp 126) rfl rfl)
                  intro g W203 hW hbx _
                  obtain ⟨yg0, yk0⟩ := hbx _ (.head _)
                  dsimp only at yg0 yk0
                  simp only [List.map_cons, List.map_nil, puts, Act.put, List.setIfInBounds_toArray, List.set_cons_zero, List.set_cons_succ]
                  clear hbx
                  generalize g 17 = yb0 at *
                  have lr0 := (Array.getElem?_eq_some_iff.1 KR.out).1
                  replace KR := Lib.hid ((hW.block _ lr0).trans KR.out)
                  replace HBs := Lib.hid (low_tr' HBs.out hW HBs.out.size)
                  replace HPa := Lib.hid (HP1.out.below HBs.out)
                  replace HPb := Lib.hid (HP2.out.below HBs.out)
                  replace HO := Lib.hid (own_below HO.out hW)
                  clear hW lr0
                  clear yg0 HJ3
                  go_wp2
                  refine region_boxes [⟨13, 14, 19, 24, #[.int .i64 0, .int .i64 0, .int .i64 0], #[.int .i64 K30, .int .i64 K31, .int .i64 K32]⟩] [(128, .int .i64 (n : Int)), (129, .slice (some ⟨g1, 0, none⟩) 3 k1), (130, .int .i64 2), (131, .pointer (some ⟨g1, 6, none⟩)), (132, ptV c0 c1 c2), (133, .slice (some ⟨g2, 0, none⟩) 3 k2), (134, .int .i64 1), (135, .pointer (some ⟨g2, 3, none⟩)), (136, ptV e0 e1 e2), (137, .tuple #[ptV K30 K31 K32, .bool uK3]), (127, .tuple #[ptV K30 K31 K32, .bool uK3]), (138, ptV K30 K31 K32), (139, .bool uK3), (20, .bool uK3)] (by kernel_rfl) (by kernel_rfl) (by kernel_rfl) (fun aE hpe => ?_)
                  simp only [puts, Act.put, List.setIfInBounds_toArray, List.set_cons_zero, List.set_cons_succ] at hpe
                  subst hpe
                  refine ⟨⟨⟨?_, ?_⟩, trivial⟩, ⟨.inr ?_, .inr ?_, .inr ?_, .inr ?_, .inr ?_, .inr ?_, .inr ?_, .inr ?_, .inr ?_, .inr ?_, .inr ?_, .inr ?_, .inr ?_, .inl rfl, .inl rfl, .inr ?_, trivial⟩, ?_⟩
                  · intro o ho ρ W
                    obtain rfl : _ = o := Option.some.inj ho
                    simp [execOp, go_sem]
                  · intro o ho ρ W g hv hp hg
                    obtain rfl : _ = o := Option.some.inj ho
                    exact run_store_row (U := #[.int .i64 K30, .int .i64 K31, .int .i64 K32]) 24 (.tmp 19) (.tmp 138) rfl hp (hv 138 (by simp [readsOf, Op.operands]) (by show (138 : Nat) ≠ 19; decide)) hg rfl Try.sizeOf24 (by simp [Value.oneCell'])
                  · exact CalmG.mk 128 (.int .i64 (n : Int)) rfl rfl rfl (fun W hW => calm_move (.tmp 0) rfl rfl)
                  · exact CalmG.mk 129 (.slice (some ⟨g1, 0, none⟩) 3 k1) rfl rfl rfl (fun W hW => calm_move (.tmp 1) rfl rfl)
                  · exact CalmG.mk 130 (.int .i64 2) rfl rfl rfl (fun W hW => calm_move (.tmp 16) rfl rfl)
                  · exact CalmG.mk 131 (.pointer (some ⟨g1, 6, none⟩)) rfl rfl rfl (fun W hW => calm_run (by simp [execOp, Act.eval, go_sem]))
                  · exact CalmG.mk 132 (ptV c0 c1 c2) rfl rfl rfl (fun W hW => calm_loadPt 23 (.tmp 131) rfl rfl (cell_below hW (HPa.out 2 (by omega)).1) (cell_below hW (HPa.out 2 (by omega)).2.1) (cell_below hW (HPa.out 2 (by omega)).2.2) Try.sizeOf23 Try.isAgg23)
                  · exact CalmG.mk 133 (.slice (some ⟨g2, 0, none⟩) 3 k2) rfl rfl rfl (fun W hW => calm_move (.tmp 2) rfl rfl)
                  · exact CalmG.mk 134 (.int .i64 1) rfl rfl rfl (fun W hW => calm_move (.tmp 15) rfl rfl)
                  · exact CalmG.mk 135 (.pointer (some ⟨g2, 3, none⟩)) rfl rfl rfl (fun W hW => calm_run (by simp [execOp, Act.eval, go_sem]))
                  · exact CalmG.mk 136 (ptV e0 e1 e2) rfl rfl rfl (fun W hW => calm_loadPt 23 (.tmp 135) rfl rfl (cell_below hW (HPb.out 1 (by omega)).1) (cell_below hW (HPb.out 1 (by omega)).2.1) (cell_below hW (HPb.out 1 (by omega)).2.2) Try.sizeOf23 Try.isAgg23)
                  · exact CalmG.mk 137 (.tuple #[ptV K30 K31 K32, .bool uK3]) rfl rfl rfl (fun W hW => calm_call 96 _ #[.int .i64 (n : Int), ptV c0 c1 c2, ptV e0 e1 e2] rfl rfl rfl (by simp [Act.eval]) (Try.call96 _ _) (HK3.out W))
                  · exact CalmG.mk 127 (.tuple #[ptV K30 K31 K32, .bool uK3]) rfl rfl rfl (fun W hW => calm_move (.tmp 137) rfl rfl)
                  · exact CalmG.mk 138 (ptV K30 K31 K32) rfl rfl rfl (fun W hW => calm_extract (.tmp 127) 0 rfl rfl rfl)
                  · exact CalmG.mk 139 (.bool uK3) rfl rfl rfl (fun W hW => calm_extract (.tmp 127) 1 rfl rfl rfl)
                  · exact CalmG.mk 20 (.bool uK3) rfl rfl rfl (fun W hW => calm_assign (.tmp 139) rfl rfl)
                  intro g W213 hW hbx _
                  obtain ⟨zg0, zk0⟩ := hbx _ (.head _)
                  dsimp only at zg0 zk0
                  simp only [List.map_cons, List.map_nil, puts, Act.put, List.setIfInBounds_toArray, List.set_cons_zero, List.set_cons_succ]
                  clear hbx
                  generalize g 19 = zb0 at *
                  have lr0 := (Array.getElem?_eq_some_iff.1 KR.out).1
                  replace KR := Lib.hid ((hW.block _ lr0).trans KR.out)
                  replace HBs := Lib.hid (low_tr' HBs.out hW HBs.out.size)
                  replace HPa := Lib.hid (HP1.out.below HBs.out)
                  replace HPb := Lib.hid (HP2.out.below HBs.out)
                  have lyk0 := (Array.getElem?_eq_some_iff.1 yk0).1
                  replace yk0 := (hW.block _ lyk0).trans yk0
                  clear lyk0
                  replace HO := Lib.hid (own_below HO.out hW)
                  clear hW lr0
                  clear zg0 HK3
                  have hsb : B0 ≤ W213.heap.size := own_szn HO.out (by omega)
                  go_wp2_with (first
                    | (refine wpList_load_row _ rfl 24 _ rfl (g := yb0) (T := 24) (cs := #[.int .i64 J30, .int .i64 J31, .int .i64 J32]) (fr := (0, 0)) rfl (yk0) 3 rfl Try.sizeOf24 Try.isAgg24 ?_)
                    | (refine wpList_load_row _ rfl 24 _ rfl (g := zb0) (T := 24) (cs := #[.int .i64 K30, .int .i64 K31, .int .i64 K32]) (fr := (0, 0)) rfl (zk0) 3 rfl Try.sizeOf24 Try.isAgg24 ?_)
                    | (go_at_call 98; refine (HV.out _).mono ?_; rintro e wm3 ⟨rfl, hbm⟩; have HBm := Lib.hid hbm; clear hbm)
                    | (refine wpList_store_row _ rfl 23 _ _ rfl rfl (U := #[.int .i64 V0, .int .i64 V1, .int .i64 V2]) rfl rfl (heap_alloc_new _ _) rfl Try.sizeOf23 (by simp [Value.oneCell']) ?_; rw [alloc_setRow])
                    | (refine wpList_load_row _ rfl 23 _ rfl (g := wm3.heap.size) (T := 23) (cs := #[.int .i64 V0, .int .i64 V1, .int .i64 V2]) (fr := (0, 0)) rfl (by rw [hn_atN _ _ _ rfl]) 3 rfl Try.sizeOf23 Try.isAgg23 ?_)
                    | (at_builtin; go_loud (refine wpList_append_own _ rfl _ _ 52 rfl B0 23 i0 (.agg #[.int .i64 0, .int .i64 0, .int .i64 0]) 3 24 Try.underlying52 HI0.out HZ0.out HZ1.out HZ2.out rfl (by decide) _ _ _ rfl (((own_below HO.out HBm.out).alloc _).alloc _) ⟨wm3.heap.size + 1, 0, none⟩ 1 1 [.int .i64 V0, .int .i64 V1, .int .i64 V2] rfl rfl (newPs _ _ (by simp) _ _ _ _) (oneP _ _ _) (by unfold maxLen; omega) (by omega) (by have := HBm.out.size; first | omega | (simp; done) | (simp; omega)) ?_; intro v3 w3 hown hgrow _; have HO2 := Lib.hid hown; have HG := Lib.hid hgrow; clear hown hgrow)))
                  have hnb := own_base' HO.out
                  have lm := (Array.getElem?_eq_some_iff.1 KR.out).1
                  have lm2 : w.heap.size < wm3.heap.size := Nat.lt_of_lt_of_le lm HBm.out.size
                  have BM := bal (bal (low_tr' HBs.out HBm.out HBs.out.size) (.cells #[.int .i64 V0, .int .i64 V1, .int .i64 V2] 23)) (.cells #[.int .i64 V0, .int .i64 V1, .int .i64 V2] 23)
                  replace KR := Lib.hid (show w3.heap[w.heap.size]? = some (.cells #[.int .i64 0, .int .i64 0, .int .i64 0] 24 (0, 0)) by rw [HG.out.block (w.heap.size) (by first | omega | (simp; done) | (simp; omega)) (fun e => by have := hnb _ e.symm; omega), hn_pastN _ _ _ (by first | omega | (simp; done) | (simp; omega)), hn_pastN _ _ _ lm2, HBm.out.block _ lm]; exact KR.out)
                  replace HBs := Lib.hid (show Below w.heap.size w w3 from BM.grown HG.out BM.size (fun k' hk' => by have := hnb k' hk'; omega))
                  replace HO := Lib.hid (show w3.ownsRow B0 23 3 v3 3 (ptCs [(X0, X1, X2), (Y0, Y1, Y2), (V0, V1, V2)]) from HO2.out)
                  replace HPa := Lib.hid (HP1.out.below HBs.out)
                  replace HPb := Lib.hid (HP2.out.below HBs.out)
                  clear HO2 HG HBm BM hnb lm lm2 hsb HV
                  rw [rounds_succ]; go_wp2
                  rw [rounds_succ]; go_wp2
                  refine wp_loop_rounds 4 ?_
                  rw [rounds_succ]; go_wp2
                  rw [rounds_succ]
                  obtain ⟨gl, capl, rfl, hgl0, hgl1, hptl⟩ := ownPts HO.out rfl (by omega)
                  have HPl := Lib.hid hptl
                  clear hptl
                  have lr0 := (Array.getElem?_eq_some_iff.1 KR.out).1
                  have HThr := Lib.hid (HTh.out (by first | rfl | trivial) (by first | rfl | trivial) (by first | rfl | trivial))
                  clear HTh
                  go_wp2_with (first
                    | (go_at_call 117; refine (HThr.out _ _ _ HPl.out).mono ?_; rintro e wt ⟨rfl, hbt⟩; have HBt := Lib.hid hbt; clear hbt)
                    | (refine wpList_store_row _ rfl 24 _ _ rfl rfl (U := #[.int .i64 R0, .int .i64 R1, .int .i64 R2]) rfl rfl (heap_alloc_new _ _) rfl Try.sizeOf24 (by simp [Value.oneCell']) ?_; rw [alloc_setRow])
                    | (refine wpList_load_row _ rfl 24 _ rfl (g := wt.heap.size) (T := 24) (cs := #[.int .i64 R0, .int .i64 R1, .int .i64 R2]) (fr := (0, 0)) rfl (by rw [hn_atN _ _ _ rfl]) 3 rfl Try.sizeOf24 Try.isAgg24 ?_)
                    | (refine wpList_store_row _ rfl 24 _ _ rfl rfl (g := w.heap.size) (T := 24) (cs := #[.int .i64 0, .int .i64 0, .int .i64 0]) (U := #[.int .i64 R0, .int .i64 R1, .int .i64 R2]) rfl rfl (by rw [hn_pastN _ _ _ (Nat.lt_of_lt_of_le lr0 HBt.out.size), HBt.out.block _ lr0]; exact KR.out) rfl Try.sizeOf24 (by simp [Value.oneCell']) ?_))
                  obtain rfl := F6.out (by first | rfl | trivial) (by first | rfl | trivial) (by first | rfl | trivial)
                  exact bodyPost_ret (v := .tuple #[ptV R0 R1 R2, .int .i64 0]) (results_rowT Try.results54 rfl rfl (setRow_heap _ _ #[.int .i64 0, .int .i64 0, .int .i64 0] _ _ _ (by rw [hn_pastN _ _ _ (Nat.lt_of_lt_of_le lr0 HBt.out.size), HBt.out.block _ lr0]; exact KR.out)) 3 rfl Try.sizeOf24 Try.isAgg24) rfl ⟨rfl, below_setRowN (bal (low_tr' HBs.out HBt.out HBs.out.size) _) (Nat.le_refl _) _⟩
set_option maxRecDepth 20000 in
theorem PappusLine_spec_code (p : Int) (b1 b2 : Option Addr) (n1 c1 n2 c2 : Nat) (l1 l2 : List Pt) (k : Int) (w : World) (hn1 : n1 ≤ 1000000) (hn2 : n2 ≤ 1000000) (i1 : ListC w b1 n1 c1 l1) (i2 : ListC w b2 n2 c2 l2) (hk : threesR p n1 n2 l1 l2 = k) (h0 : k ≠ 0) :
    Calls Try.prog 54 #[.int .i64 p, .slice b1 n1 c1, .slice b2 n2 c2] w (Ret w (.tuple #[ptV 0 0 0, .int .i64 k])) := by
  have HTc := Lib.hid (fun (W : World) (hW : Below w.heap.size w W) => l09Threes_any p b1 b2 n1 c1 n2 c2 l1 l2 W hn1 hn2 (i1.below hW) (i2.below hW))
  rw [hk] at HTc
  have hq : (k != 0) = true := bnet h0
  clear i1 i2 hk
  go_enter Try.func54, Try.ntmps54
  go_wp2_with (first
    | (go_at_call 116; (with_reducible refine (HTc.out _ (bal (Below.refl _ _) _)).mono ?_); rintro e w1_ ⟨rfl, hb1⟩; obtain ⟨hcb1, hfb1, hlb1⟩ := bcell hb1; have hsz1 := hb1.size; (try simp at hsz1); have HB1 := Lib.hid hb1; clear hb1; (try (have hl01 : w.heap.size < w1_.heap.size := by omega)))
    | (refine wpList_build _ rfl 24 _ rfl #[.int .i64 0, .int .i64 0, .int .i64 0] (by kernel_rfl) ?_)
    | (refine wpList_store_row _ rfl 24 _ _ rfl rfl (g := w.heap.size) (T := 24) (cs := #[.int .i64 0, .int .i64 0, .int .i64 0]) (U := #[.int .i64 0, .int .i64 0, .int .i64 0]) rfl rfl (by rw [HB1.out.block _ (by simp), hn_atN _ _ _ rfl]) rfl Try.sizeOf24 (by simp [Value.oneCell']) ?_))
  exact bodyPost_ret (v := .tuple #[ptV 0 0 0, .int .i64 k]) (results_rowT Try.results54 rfl rfl (setRow_heap _ _ #[.int .i64 0, .int .i64 0, .int .i64 0] _ _ _ (by rw [HB1.out.block _ (by simp), hn_atN _ _ _ rfl])) 3 rfl Try.sizeOf24 Try.isAgg24) rfl ⟨rfl, below_setRowN (by repeat (first | exact Below.refl _ _ | refine bset ?_ _ _ (by omega) _ | refine bal ?_ _ | refine bdrN ?_ _ | refine bdr ?_ | refine below_tr' ?_ HB1.out)) (Nat.le_refl _) _⟩
theorem PappusLine_spec (p : Int) (b1 b2 : Option Addr) (n1 c1 n2 c2 : Nat) (l1 l2 : List Pt) (w : World) (hn1 : n1 ≤ 1000000) (hn2 : n2 ≤ 1000000) (i1 : ListC w b1 n1 c1 l1) (i2 : ListC w b2 n2 c2 l2) :
    Calls Try.prog 54 #[.int .i64 p, .slice b1 n1 c1, .slice b2 n2 c2] w (Ret w (.tuple #[ptV (papR p n1 n2 l1 l2).1.1 (papR p n1 n2 l1 l2).1.2.1 (papR p n1 n2 l1 l2).1.2.2, .int .i64 (papR p n1 n2 l1 l2).2])) := by
  by_cases h0 : threesR p n1 n2 l1 l2 = 0
  · obtain ⟨hp, hv1, hv2, rfl, rfl⟩ := threesR_zero h0
    obtain ⟨n, rfl⟩ : ∃ n : Nat, p = n := ⟨p.toNat, by have := prB_bd hp; omega⟩
    obtain ⟨a, b, c, rfl⟩ := list3 i1.1
    obtain ⟨d, e, f, rfl⟩ := list3 i2.1
    rcases i1.2 with ⟨_, h3, _⟩ | ⟨g1, rfl, hP1⟩
    · cases h3
    rcases i2.2 with ⟨_, h3, _⟩ | ⟨g2, rfl, hP2⟩
    · cases h3
    have hR : papR n 3 3 [a, b, c] [d, e, f] = papC n a b c d e f := by unfold papR; rw [if_neg (by simp [h0])]; rfl
    rw [hR]
    obtain ⟨ha, hb, hc⟩ := pts3 (x := 0) (y := 0) (z := 0) (u := 0) (v := 0) (t := 0) hv1
    obtain ⟨hd, he, hf⟩ := pts3 (x := 0) (y := 0) (z := 0) (u := 0) (v := 0) (t := 0) hv2
    exact PappusLine_spec_core n g1 c1 g2 c2 a.1 a.2.1 a.2.2 b.1 b.2.1 b.2.2 c.1 c.2.1 c.2.2 d.1 d.2.1 d.2.2 e.1 e.2.1 e.2.2 f.1 f.2.1 f.2.2 w hp ha hb hc hd he hf hP1 hP2 h0 _ rfl
  · have hR : papR p n1 n2 l1 l2 = ((0, 0, 0), threesR p n1 n2 l1 l2) := by unfold papR; rw [if_pos h0]
    rw [hR]
    exact PappusLine_spec_code p b1 b2 n1 c1 n2 c2 l1 l2 _ w hn1 hn2 i1 i2 rfl h0
end Go.Proofs.Ythkbhaaodegocaa
