/- What the walks of query begin with. -/
import Derived.Test.YtmbppgjhdcmckaaGreatDoorBg17
import Derived.Test.YtmbppgjhdcmckaaGreatDoorBg18
import Derived.Test.YtmbppgjhdcmckaaGreatDoorBg14
import Derived.Test.YtmbppgjhdcmckaaGreatDoorBg15
import Derived.Test.YtmbppgjhdcmckaaGreatDoorBg11
import Derived.Test.YtmbppgjhdcmckaaGreatDoorBg01
import Derived.Test.YtmbppgjhdcmckaaGreatDoorBg06
import Derived.Test.YtmbppgjhdcmckaaGreatDoorBg16
import Derived.Test.YtmbppgjhdcmckaaGreatDoorBg10
import Derived.Test.YtmbppgjhdcmckaaGreatDoorBg09
import Derived.Test.YtmbppgjhdcmckaaGreatDoorBg08
import Derived.Test.YtmbppgjhdcmckaaGreatDoorBg19
import Derived.Test.YtmbppgjhdcmckaaGreatDoorBg12
namespace Go.Proofs.YtmbppgjhdcmckaaGreatDoor
namespace Ma
/- near_all Floor_all Ceil_all Half_all Add_all Cmp_all Check_all Of_any dyadTwin_any dyadSame_any Equal_any Clone_any Sm_refl Dy Sm same Between_num PCheck_any near_sg toD_floor toD_ceil toX_dn nearX_dn ask_ok asked_one whole whole_pos whole_near near_dn formed_sg vl_scaled rNear_all rHalf_all rOf_any rNear_any tab_later Tab door_met door_shaped tab_of_laid halfX addX cmpX chkX nearX toX MayD dn_may info_parts infoU32 own_emptyg wpList_append_raw Amid Ceil_all Dn Dy E_of_G Floor_all From Ints Keeps MBox MRows Mean_num Mv PCheck_any RB RGreat_any RSame_any RTwinM_any RowsOff TwinV WrR ZM all all_to alloc alloc_m alloc_mm alloc_z amid_spoilt badS below below_put betweenM boxD box_later box_on box_put box_spoilt boxes2 cells cmpD cmp_is dnM doneE drew dyadSame_any dyad_open far get great greatM great_not halfD ints_all ints_on ints_put is isM_n keep later law_post len lt lt_of_heap mass_open meanM more nearX near_all of of_heap off on pureE put rCeil_all rFloor_all rGreat_any rSame_any rTwin_any readE refl region_E rows rows_or rows_spoilt same same_refl share size_put spoil15_any stepG stepG2 stepG3 stepK stepK2 stepK3 toX trans twin_bad twin_same u32 whole zero Between_num RMayS_any rzero_any badS_one between_share between_law liesD liesM In_any rPlus_any rOf1_any Digits_any Plus_any Times2_any Cut_any Order_any WrS ints_open open_int canon canon_spec canon_of num plusS sg vl vl_zero vl_inj sum_vl vl_pos pos_vl bothD downM upM toD share_down lies_zero canon_len canon_len_le plusS_sg plusS_le lies_at dig_ints ask_zero ask_two toX_code toX_may Formed formed formed_may num_lt take_lt canon_zero canon_nil canon_one Dig nil_ own_shape sg_abs b32 capD capD_40 ints_may may_dn dn_ok dn_may MayD zputR intsR boxP3 boxS heap_alloc_last alloc_d lm_one faulty_any none_any BothR bodyPost_ret codes_two info_parts Yes wf_i64 below_keep ints_rng rows_rng great_len twin_all TB MF wrM spoiltS ints_spoilt twins_dn Cutd canonF num_append num_zeros append tail num_pos num_inj canonF_spec cutL sg_mul sg_zero sg_inj sg_nil strip strip_spec strip_of capE capE_eq capD_eq capD_gt May zero_may may_zero vl_more formed_cases formed_vl formed_of addD negD subD neg_may vl_neg max_le' add_vl add_of add_may add_cases sub_vl sub_of sub_may sub_cases half_may half_cases half_vl half_over cmp_spec cmp_swap cmp_zero cmp_by add_comm add_back add_assoc half_twice sub_sign set_ blk lies_half lies_add xs_nil num_nil0 two_spoilt ints_off spoilt twin_may twin_add twin_sub twin_split twin_chk twin_sameV twin_sameM sameM_refl twin_refl_n twin_twin splitM_mayR seedM_may dn can_nil share_is between_of twoR twoR_may twoR_is sm -/
theorem quseat_root : True := trivial
end Ma
end Go.Proofs.YtmbppgjhdcmckaaGreatDoor