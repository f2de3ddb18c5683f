/- TextTells' walk. -/
import Derived.Test.YtjpefeopfbgnhaaDoorTAwake
namespace Go.Proofs.YtjpefeopfbgnhaaDoor
open Go Go.RowKit

set_option maxRecDepth 100000 in
set_option maxHeartbeats 4000000 in
theorem tells_true (s : ByteArray) (w : World) (hT : Tabs w) (hs : s.size ≤ 9223372036854775807) :
    Calls Tryd.prog 4 #[.string s] w fun e w' => e = .returned (.bool true) ∧ Below w.heap.size w w' := by
  have HT := Lib.hid hT
  clear hT
  have hb : Below w.heap.size w w := Below.refl _ _
  by_cases hg : 3000 < s.size
  · skip
    go_enter Tryd.func4, Tryd.ntmps4
    go_wp2_with fail
    refine (great_of true s w (decide_eq_true hg)).mono ?_
    rintro e w' ⟨rfl, rfl⟩
    go_wp2_with fail
    refine (awake_true _ HT.out).mono ?_
    rintro e w1 ⟨rfl, hk⟩
    replace hb := bnext hb (Nat.le_refl _) hk
    clear hk
    go_wp2_with fail
    go_ret
    exact ⟨rfl, hb⟩
  · obtain ⟨n, hn⟩ : ∃ n, cntI s.data.toList = n := ⟨_, rfl⟩
    obtain ⟨b, hv⟩ : ∃ b, okT s = b := ⟨_, rfl⟩
    go_enter Tryd.func4, Tryd.ntmps4
    go_wp2_with fail
    refine (great_of false s w (decide_eq_false hg)).mono ?_
    rintro e w' ⟨rfl, rfl⟩
    go_wp2_with fail
    refine (valid_s b s _ HT.out hs hv).mono ?_
    rintro e w1 ⟨rfl, hk⟩
    replace hb := bnext hb (Nat.le_refl _) hk
    clear hk
    go_wp2_with fail
    refine (rvalid_s b s _ hs hv).mono ?_
    rintro e w2 ⟨rfl, hk⟩
    replace hb := bnext hb (Nat.le_refl _) hk
    clear hk
    go_wp2_with fail
    refine (count_s n s _ (HT.out.below hb) hs hn).mono ?_
    rintro e w3 ⟨rfl, hk⟩
    replace hb := bnext hb (Nat.le_refl _) hk
    clear hk
    go_wp2_with fail
    refine (rcount_s n s _ hs hn).mono ?_
    rintro e w4 ⟨rfl, hk⟩
    replace hb := bnext hb (Nat.le_refl _) hk
    clear hk
    go_wp2_with fail
    refine (awake_true _ (HT.out.below hb)).mono ?_
    rintro e w5 ⟨rfl, hk⟩
    replace hb := bnext hb (Nat.le_refl _) hk
    clear hk
    go_wp2_with fail
    go_ret
    exact ⟨rfl, hb⟩
end Go.Proofs.YtjpefeopfbgnhaaDoor
