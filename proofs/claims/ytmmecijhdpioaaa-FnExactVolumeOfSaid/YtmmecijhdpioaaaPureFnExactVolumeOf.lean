/- For every box: the program's VolumeOf and the reference's return the same two results. No condition. -/
import Derived.Test.YtmmecijhdpioaaaQ0
import Derived.Test.YtmmecijhdpioaaaQ3
import Derived.Test.YtmmecijhdpioaaaUBox
import Derived.Test.YtmmecijhdpioaaaSFnExactVolumeOf
namespace Go.Proofs.Ytmmecijhdpioaaa.Pure
open Go.RowKit Go.Proofs.Ytmmecijhdpioaaa.Q Go.Proofs.YtmmecijhdpioaaaW.PrintWords Go.Proofs.YtmmecijhdpioaaaW.PrintLast Go.Proofs.YtmmecijhdpioaaaW.PrintMore
theorem FnExactVolumeOf : laws_FnExactVolumeOf.Pure := by
  intro a b c _ _ _
  refine Ev.rounds ?_
  unfold laws_FnExactVolumeOf.f
  simp only [laws_toBox.f, Option.bind_some]
  cases h : boxB a b c with
  | true =>
    have hs : Ev (fun k => spec_VolumeOf.f k a b c) (wrap64 ((wrap64 (a * b)) * c), true) := by
      unfold spec_VolumeOf.f
      refine Ev.bind (h ▸ ne_good a b c) (ev_pos rfl ?_)
      simp only [spec_neVolume.f, Option.bind_some]
      exact Ev.now _
    have hi : impl_VolumeOf.f a b c = some (wrap64 ((wrap64 (a * b)) * c), true) := by
      simp [impl_VolumeOf.f, im_box, h, impl_Box_volume.f]
    refine Ev.bind hs ?_
    rw [hi]
    exact ev_some (ev_pos rfl (ev_neg (by simp) (Ev.now _)))
  | false =>
    have hs : Ev (fun k => spec_VolumeOf.f k a b c) (0, false) := by
      unfold spec_VolumeOf.f
      exact Ev.bind (h ▸ ne_good a b c) (ev_neg (by decide) (Ev.now _))
    have hi : impl_VolumeOf.f a b c = some (0, false) := by
      simp [impl_VolumeOf.f, im_box, h]
    refine Ev.bind hs ?_
    rw [hi]
    exact ev_some (ev_pos rfl (ev_neg (by simp) (Ev.now _)))

end Go.Proofs.Ytmmecijhdpioaaa.Pure
